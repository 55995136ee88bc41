/-
  Functions of the program walked: each is shown to compute a plain function (RegP).
-/
import Derived.Test.YtdmelhjbbaaphaaGreatDoorPtRatF
namespace Abs
set_option linter.unusedSimpArgs false
set_option linter.unusedVariables false
set_option maxRecDepth 100000
set_option maxHeartbeats 2000000
open Go Go.Proofs
def iA (n : Int) : AVal := (AVal.sc (Value.int IntKind.i64 (n)))
def fineB (k : List Int) : Bool := (k.all fun c => decide (-1 ≤ c) && decide (c ≤ 1000)) && decide (k.length ≤ 10)
theorem wf_is (l : List Int) : WFs 0 (l.map iA) := WFs.map fun _ => .sc _
theorem fine_bad {k : List Int} {i : Nat} {c : Int} (hc : k[i]? = some c) (hb : c < -1 ∨ 1000 < c) : fineB k = false := by
 have : (k.all fun c => decide (-1 ≤ c) && decide (c ≤ 1000)) = false := by
  rw [List.all_eq_false]
  refine ⟨c, List.mem_of_getElem? hc, ?_⟩
  simp only [Bool.and_eq_true, decide_eq_true_eq]
  omega
 simp only [fineB, this, Bool.false_and]
theorem fine_good {k : List Int} (h : ∀ (j : Nat) (c : Int), j < k.length → k[j]? = some c → -1 ≤ c ∧ c ≤ 1000) : fineB k = decide (k.length ≤ 10) := by
 have : (k.all fun c => decide (-1 ≤ c) && decide (c ≤ 1000)) = true := by
  rw [List.all_eq_true]
  intro c hc
  obtain ⟨j, hj, rfl⟩ := List.mem_iff_getElem.1 hc
  have := h j _ hj (List.getElem?_eq_getElem hj)
  simp only [Bool.and_eq_true, decide_eq_true_eq]
  exact this
 simp only [fineB, this, Bool.true_and]
theorem fineC {w : World} {K : AVal} {k : List Int} (hk : IsD 1 K (k.map iA)) (hl : k.length ≤ 1000000) : GivesV (EE w) 27 [K] (AVal.sc (Value.bool (fineB k))) := by
 refine GivesV.of (fun _ => .sc _) (.cons _ _ (hk.wf (wf_is k)) .nil) 1 ?_
 refine of_27 rfl rfl rfl (by kernel_rfl) ?_
 simp (maxSteps := 500000) -implicitDefEqProofs only [go_sem, hk.len]
 (first | refine Z_block_loop (ι := Nat) (fun i => [(0, K), (2, (AVal.sc (Value.bool (false)))), (5, K), (6, (AVal.sc (Value.int IntKind.i64 (k.length)))), (7, (AVal.sc (Value.int IntKind.i64 (i))))]) (fun i σ => i ≤ k.length ∧ (∀ (j : Nat) (c : Int), j < i → k[j]? = some c → -1 ≤ c ∧ c ≤ 1000)) (fun i => k.length - i) (fun _ => rfl) 0 ?_ ?_ ?_ | refine Z_seq_loop (ι := Nat) (fun i => [(0, K), (2, (AVal.sc (Value.bool (false)))), (5, K), (6, (AVal.sc (Value.int IntKind.i64 (k.length)))), (7, (AVal.sc (Value.int IntKind.i64 (i))))]) (fun i σ => i ≤ k.length ∧ (∀ (j : Nat) (c : Int), j < i → k[j]? = some c → -1 ≤ c ∧ c ≤ 1000)) (fun i => k.length - i) (fun _ => rfl) 0 ?_ ?_ ?_ | refine Z_loop (ι := Nat) (fun i => [(0, K), (2, (AVal.sc (Value.bool (false)))), (5, K), (6, (AVal.sc (Value.int IntKind.i64 (k.length)))), (7, (AVal.sc (Value.int IntKind.i64 (i))))]) (fun i σ => i ≤ k.length ∧ (∀ (j : Nat) (c : Int), j < i → k[j]? = some c → -1 ≤ c ∧ c ≤ 1000)) (fun i => k.length - i) (fun _ => rfl) 0 ?_ ?_ ?_)
 ·(repeat' (first | exact trivial | refine ⟨rfl, ?_⟩))
 ·exact ⟨Nat.zero_le _, by omega⟩
 rintro i σ ⟨hi, hok⟩
 simp (maxSteps := 500000) -implicitDefEqProofs only [go_sem]
 ((first | refine vz2 ?_ ?_ | refine vz3 ?_ ?_) <;> intro h2)
 ·obtain ⟨c, hc⟩ : ∃ c, k[i]? = some c := ⟨k[i]'(by omega), by simp⟩
  have hc' : (k.map iA)[i]? = some (iA c) := by simp [hc]
  have hw := wrapS (i := i) (by omega)
  by_cases h3 : c < -1
  ·(repeat' first | ((first | refine vy1 ?_ ?_ | refine vy2 ?_ ?_ | refine vy3 ?_ ?_) <;> rintro ⟨hd, hq⟩ <;> first | (exfalso; omega) | simp (maxSteps := 500000) -implicitDefEqProofs only [go_sem, hd, hk.idx hc', iA, hw, dct h3] | skip) | refine vzt ?_ | refine vzf ?_ | refine vsb ?_ | refine vzb ?_ | refine vzq ?_ | simp (maxSteps := 500000) -implicitDefEqProofs only [go_sem, hk.idx hc', iA, hw, dct h3])
   exact ⟨_, rfl, by rw [fine_bad hc (.inl h3)]; rfl⟩
  ·by_cases h4 : 1000 < c
   ·(repeat' first | ((first | refine vy1 ?_ ?_ | refine vy2 ?_ ?_ | refine vy3 ?_ ?_) <;> rintro ⟨hd, hq⟩ <;> first | (exfalso; omega) | simp (maxSteps := 500000) -implicitDefEqProofs only [go_sem, hd, hk.idx hc', iA, hw, dcf h3, dct h4] | skip) | refine vzt ?_ | refine vzf ?_ | refine vsb ?_ | refine vzb ?_ | refine vzq ?_ | simp (maxSteps := 500000) -implicitDefEqProofs only [go_sem, hk.idx hc', iA, hw, dcf h3, dct h4])
    exact ⟨_, rfl, by rw [fine_bad hc (.inr h4)]; rfl⟩
   ·(repeat' first | ((first | refine vy1 ?_ ?_ | refine vy2 ?_ ?_ | refine vy3 ?_ ?_) <;> rintro ⟨hd, hq⟩ <;> first | (exfalso; omega) | simp (maxSteps := 500000) -implicitDefEqProofs only [go_sem, hd, hk.idx hc', iA, dcf h3, dcf h4, hw] | skip) | refine vzt ?_ | refine vzf ?_ | refine vsb ?_ | refine vzb ?_ | refine vzq ?_ | simp (maxSteps := 500000) -implicitDefEqProofs only [go_sem, hk.idx hc', iA, dcf h3, dcf h4, hw])
    refine ⟨i + 1, by dsimp only; omega, ⟨by omega, ?_⟩, ?_⟩
    ·intro j q hj hq
     rcases Nat.lt_or_ge j i with h' | h'
     ·exact hok j q h' hq
     ·obtain rfl : j = i := by omega
      rw [hc] at hq; cases hq; exact ⟨by omega, by omega⟩
    ·(repeat' (first | exact trivial | refine ⟨rfl, ?_⟩))
 ·obtain rfl : i = k.length := by omega
  rw [fine_good hok]
  (repeat' first | ((first | refine vy1 ?_ ?_ | refine vy2 ?_ ?_ | refine vy3 ?_ ?_) <;> rintro ⟨hd, hq⟩ <;> first | (exfalso; omega) | simp (maxSteps := 500000) -implicitDefEqProofs only [go_sem, hd, hk.len] | skip) | refine vzt ?_ | refine vzf ?_ | refine vsb ?_ | refine vzb ?_ | refine vzq ?_ | simp (maxSteps := 500000) -implicitDefEqProofs only [go_sem, hk.len])
  exact ⟨_, rfl, by rw [show decide ((k.length : Int) ≤ 10) = decide (k.length ≤ 10) from decide_eq_decide.mpr (by omega)]; rfl⟩
def topR (r : List Int) : Int := r.foldl max 0
def rgA (W R : AVal) : AVal := .agg [W, R]
theorem max_if (a b : Int) : (if b > a then b else a) = max a b := by rw [Int.max_def]; split <;> split <;> omega
theorem top_take {r : List Int} {i : Nat} {c : Int} (h : r[i]? = some c) : (r.take (i + 1)).foldl max 0 = max ((r.take i).foldl max 0) c := by
 rw [List.take_add_one, h, List.foldl_append]
 rfl
end Abs
namespace Abs
set_option linter.unusedSimpArgs false
set_option linter.unusedVariables false
set_option maxRecDepth 100000
set_option maxHeartbeats 2000000
open Go Go.Proofs
def okI (k l r : List Int) (i : Nat) : Prop := ∀ c x y, k[i]? = some c → l[i]? = some x → r[i]? = some y → 0 ≤ x ∧ x ≤ c + 1 ∧ 0 ≤ y ∧ y ≤ k.length ∧ (0 < y → x < c)
def checkP (k l r : List Int) : Prop := fineB k = true ∧ l.length = k.length ∧ r.length = k.length ∧ (∀ i, i < k.length → okI k l r i) ∧ ∀ n : Int, 1 ≤ n → n ≤ topR r → n ∈ r
open Classical in
noncomputable def checkE (k l r : List Int) : Int := if checkP k l r then 0 else 2
theorem check_good {k l r : List Int} (h : checkP k l r) : checkE k l r = 0 := if_pos h
theorem check_bad {k l r : List Int} (h : ¬ checkP k l r) : checkE k l r = 2 := if_neg h
theorem fine_in {k : List Int} (h : fineB k = true) {i : Nat} {c : Int} (hc : k[i]? = some c) : -1 ≤ c ∧ c ≤ 1000 := by
 simp only [fineB, Bool.and_eq_true, List.all_eq_true, decide_eq_true_eq] at h
 exact h.1 c (List.mem_of_getElem? hc)
theorem fine_len {k : List Int} (h : fineB k = true) : k.length ≤ 10 := by
 simp only [fineB, Bool.and_eq_true, decide_eq_true_eq] at h
 exact h.2
theorem foldl_max_le {m : Int} : ∀ (r : List Int) (a : Int), a ≤ m → (∀ y ∈ r, y ≤ m) → r.foldl max a ≤ m
 | [], a, ha, _ => ha
 | y :: r, a, ha, h => foldl_max_le r (max a y) (by have := h y (by simp); omega) fun z hz => h z (by simp [hz])
theorem topR_le {r : List Int} {m : Int} (hm : 0 ≤ m) (h : ∀ y ∈ r, y ≤ m) : topR r ≤ m := foldl_max_le r 0 hm h
end Abs
namespace Abs
set_option linter.unusedSimpArgs false
set_option linter.unusedVariables false
set_option maxRecDepth 100000
set_option maxHeartbeats 2000000
open Go Go.Proofs
def bA (b : Bool) : AVal := (AVal.sc (Value.bool (b)))
theorem opMk_nat {σ : AStore} {sz bytes n : Nat} {z : AVal} (h : n ≤ 2000000) (hb : bytes ≤ 1000) : opMk σ ⟨sz, bytes, z⟩ (some (.sc (.int .i64 (n : Int)))) (some (.sc (.int .i64 (n : Int)))) = .val (.slice σ.next 0 n) (σ.alloc (.cells sz (List.replicate n z))) := by
 simp only [opMk]
 have hbn : bytes * n ≤ 1000 * 2000000 := Nat.mul_le_mul hb h
 have hbn' : ((bytes : Nat) : Int) * (n : Int) ≤ 2 ^ 48 := by rw [← Int.natCast_mul]; omega
 rw [if_pos ⟨by omega, by omega, hbn', by omega⟩]
 simp
theorem topR_take_le {r : List Int} {m : Int} {i : Nat} (hm : 0 ≤ m) (h : ∀ j y, j < i → r[j]? = some y → y ≤ m) : (r.take i).foldl max 0 ≤ m := by
 refine foldl_max_le _ 0 hm fun y hy => ?_
 obtain ⟨j, hj, rfl⟩ := List.mem_iff_getElem.1 hy
 rw [List.length_take] at hj
 refine h j _ (by omega) ?_
 rw [List.getElem_take, List.getElem?_eq_getElem (by omega)]
set_option maxHeartbeats 4000000 in
theorem checkC {w : World} {K W R : AVal} {k l r : List Int} (hK : IsD 1 K (k.map iA)) (hW : IsD 1 W (l.map iA)) (hR : IsD 1 R (r.map iA)) (hk : k.length ≤ 1000000) (hl : l.length ≤ 1000000) (hr : r.length ≤ 1000000) :
  GivesV (EE w) 10 [K, rgA W R] (AVal.sc (Value.int IntKind.i64 (checkE k l r))) := by
 refine GivesV.of (fun _ => .sc _) (.cons _ _ (hK.wf (wf_is k)) (.cons _ _ (.agg _ (.cons _ _ (hW.wf (wf_is l)) (.cons _ _ (hR.wf (wf_is r)) .nil))) .nil)) 1 ?_
 refine of_10 rfl rfl rfl (by kernel_rfl) ?_
 simp (maxSteps := 500000) -implicitDefEqProofs only [go_sem, rgA]
 refine (fineC hK hk).use ?_
 cases hf : fineB k with
 | false =>
  (repeat' first | ((first | refine vy1 ?_ ?_ | refine vy2 ?_ ?_ | refine vy3 ?_ ?_) <;> rintro ⟨hd, hq⟩ <;> first | (exfalso; omega) | simp (maxSteps := 500000) -implicitDefEqProofs only [go_sem, hd] | skip) | refine vzt ?_ | refine vzf ?_ | refine vsb ?_ | refine vzb ?_ | refine vzq ?_ | simp (maxSteps := 500000) -implicitDefEqProofs only [go_sem])
  exact ⟨_, rfl, by rw [check_bad fun h => by rw [h.1] at hf; cases hf]; rfl⟩
 | true =>
 by_cases e1 : l.length = k.length
 case neg =>
  have e1' : ¬ (l.length : Int) = k.length := by omega
  (repeat' first | ((first | refine vy1 ?_ ?_ | refine vy2 ?_ ?_ | refine vy3 ?_ ?_) <;> rintro ⟨hd, hq⟩ <;> first | (exfalso; omega) | simp (maxSteps := 500000) -implicitDefEqProofs only [go_sem, hd, hK.len, hW.len, dcf e1', dct e1'] | skip) | refine vzt ?_ | refine vzf ?_ | refine vsb ?_ | refine vzb ?_ | refine vzq ?_ | simp (maxSteps := 500000) -implicitDefEqProofs only [go_sem, hK.len, hW.len, dcf e1', dct e1'])
  exact ⟨_, rfl, by rw [check_bad fun h => e1 h.2.1]; rfl⟩
 by_cases e2 : r.length = k.length
 case neg =>
  have e2' : ¬ (r.length : Int) = k.length := by omega
  (repeat' first | ((first | refine vy1 ?_ ?_ | refine vy2 ?_ ?_ | refine vy3 ?_ ?_) <;> rintro ⟨hd, hq⟩ <;> first | (exfalso; omega) | simp (maxSteps := 500000) -implicitDefEqProofs only [go_sem, hd, hK.len, hW.len, hR.len, e1, dcf e2', dct e2'] | skip) | refine vzt ?_ | refine vzf ?_ | refine vsb ?_ | refine vzb ?_ | refine vzq ?_ | simp (maxSteps := 500000) -implicitDefEqProofs only [go_sem, hK.len, hW.len, hR.len, e1, dcf e2', dct e2'])
  exact ⟨_, rfl, by rw [check_bad fun h => e2 h.2.2.1]; rfl⟩
 have k10 := fine_len hf
 have hwn := wrapS (i := k.length) (by omega)
 have hmk : ∀ σ : AStore, opMk σ ⟨1, 1, (AVal.sc (Value.bool (false)))⟩ (some (AVal.sc (Value.int IntKind.i64 (((k.length + 1 : Nat) : Int))))) (some (AVal.sc (Value.int IntKind.i64 (((k.length + 1 : Nat) : Int))))) = .val (.slice σ.next 0 (k.length + 1)) (σ.alloc (.cells 1 (List.replicate (k.length + 1) (AVal.sc (Value.bool (false)))))) := fun σ => opMk_nat (by omega) (by decide)
 (repeat' first | ((first | refine vy1 ?_ ?_ | refine vy2 ?_ ?_ | refine vy3 ?_ ?_) <;> rintro ⟨hd, hq⟩ <;> first | (exfalso; omega) | simp (maxSteps := 500000) -implicitDefEqProofs only [go_sem, hd, hK.len, hW.len, hR.len, e1, e2, hwn, hmk] | skip) | refine vzt ?_ | refine vzf ?_ | refine vsb ?_ | refine vzb ?_ | refine vzq ?_ | simp (maxSteps := 500000) -implicitDefEqProofs only [go_sem, hK.len, hW.len, hR.len, e1, e2, hwn, hmk])
 (first | refine Z_block_loop (ι := Nat × List Bool) (fun s => [(0, K), (3, .ptr 0 0 0), (4, (AVal.sc (Value.int IntKind.i64 (0)))), (5, .slice 1 0 (k.length + 1)), (6, (AVal.sc (Value.int IntKind.i64 ((r.take s.1).foldl max 0)))), (35, W), (36, (AVal.sc (Value.int IntKind.i64 (k.length)))), (37, (AVal.sc (Value.int IntKind.i64 (s.1))))]) (fun s σ => s.1 ≤ k.length ∧ (∀ j, j < s.1 → okI k l r j) ∧ σ.get 0 = some (.cells 2 [.agg [W, R]]) ∧ σ.get 1 = some (.cells 1 (s.2.map bA)) ∧ s.2.length = k.length + 1 ∧ ∀ m : Nat, s.2[m]? = some true ↔ ∃ j, j < s.1 ∧ r[j]? = some (m : Int)) (fun s => k.length - s.1) (fun _ => rfl) (0, List.replicate (k.length + 1) false) ?_ ?_ ?_ | refine Z_seq_loop (ι := Nat × List Bool) (fun s => [(0, K), (3, .ptr 0 0 0), (4, (AVal.sc (Value.int IntKind.i64 (0)))), (5, .slice 1 0 (k.length + 1)), (6, (AVal.sc (Value.int IntKind.i64 ((r.take s.1).foldl max 0)))), (35, W), (36, (AVal.sc (Value.int IntKind.i64 (k.length)))), (37, (AVal.sc (Value.int IntKind.i64 (s.1))))]) (fun s σ => s.1 ≤ k.length ∧ (∀ j, j < s.1 → okI k l r j) ∧ σ.get 0 = some (.cells 2 [.agg [W, R]]) ∧ σ.get 1 = some (.cells 1 (s.2.map bA)) ∧ s.2.length = k.length + 1 ∧ ∀ m : Nat, s.2[m]? = some true ↔ ∃ j, j < s.1 ∧ r[j]? = some (m : Int)) (fun s => k.length - s.1) (fun _ => rfl) (0, List.replicate (k.length + 1) false) ?_ ?_ ?_ | refine Z_loop (ι := Nat × List Bool) (fun s => [(0, K), (3, .ptr 0 0 0), (4, (AVal.sc (Value.int IntKind.i64 (0)))), (5, .slice 1 0 (k.length + 1)), (6, (AVal.sc (Value.int IntKind.i64 ((r.take s.1).foldl max 0)))), (35, W), (36, (AVal.sc (Value.int IntKind.i64 (k.length)))), (37, (AVal.sc (Value.int IntKind.i64 (s.1))))]) (fun s σ => s.1 ≤ k.length ∧ (∀ j, j < s.1 → okI k l r j) ∧ σ.get 0 = some (.cells 2 [.agg [W, R]]) ∧ σ.get 1 = some (.cells 1 (s.2.map bA)) ∧ s.2.length = k.length + 1 ∧ ∀ m : Nat, s.2[m]? = some true ↔ ∃ j, j < s.1 ∧ r[j]? = some (m : Int)) (fun s => k.length - s.1) (fun _ => rfl) (0, List.replicate (k.length + 1) false) ?_ ?_ ?_)
 ·(repeat' (first | exact trivial | refine ⟨rfl, ?_⟩))
 ·refine ⟨Nat.zero_le _, by omega, by simp only [go_sem, reduceIte] <;> rfl, by simp only [go_sem, reduceIte, List.map_replicate] <;> rfl, by simp, fun m => ⟨fun h => ?_, fun ⟨j, hj, _⟩ => by simp at hj⟩⟩
  rw [List.getElem?_replicate] at h
  split at h <;> cases h
 rintro ⟨i, u⟩ σ ⟨hi, hok, g0, g1, hlen, hu⟩
 simp only at hi hok g1 hlen hu
 have hn := AStore.lt_of_get g1
 simp (maxSteps := 500000) -implicitDefEqProofs only [go_sem]
 ((first | refine vz2 ?_ ?_ | refine vz3 ?_ ?_) <;> intro h2)
 ·obtain ⟨c, hc⟩ : ∃ c, k[i]? = some c := ⟨k[i]'(by omega), by simp⟩
  obtain ⟨x, hx⟩ : ∃ c, l[i]? = some c := ⟨l[i]'(by omega), by simp⟩
  obtain ⟨y, hy⟩ : ∃ c, r[i]? = some c := ⟨r[i]'(by omega), by simp⟩
  have hc' : (k.map iA)[i]? = some (iA c) := by simp [hc]
  have hx' : (l.map iA)[i]? = some (iA x) := by simp [hx]
  have hy' : (r.map iA)[i]? = some (iA y) := by simp [hy]
  have hw := wrapS (i := i) (by omega)
  obtain ⟨c1, c2⟩ := fine_in hf hc
  have hw2 : IntKind.i64.wrap (c + 1) = c + 1 := wrap64 (by omega) (by omega)
  have bad : ¬ (0 ≤ x ∧ x ≤ c + 1 ∧ 0 ≤ y ∧ y ≤ k.length ∧ (0 < y → x < c)) → checkE k l r = 2 := fun hb => check_bad fun h => hb (h.2.2.2.1 i (by omega) c x y hc hx hy)
  by_cases b1 : x < 0
  ·(repeat' first | ((first | refine vy1 ?_ ?_ | refine vy2 ?_ ?_ | refine vy3 ?_ ?_) <;> rintro ⟨hd, hq⟩ <;> first | (exfalso; omega) | simp (maxSteps := 500000) -implicitDefEqProofs only [go_sem, hd, hK.idx hc', hW.idx hx', hR.idx hy', iA, hw2, g0, dct b1] | skip) | refine vzt ?_ | refine vzf ?_ | refine vsb ?_ | refine vzb ?_ | refine vzq ?_ | simp (maxSteps := 500000) -implicitDefEqProofs only [go_sem, hK.idx hc', hW.idx hx', hR.idx hy', iA, hw2, g0, dct b1])
   exact ⟨_, rfl, by rw [bad (by omega)]; rfl⟩
  by_cases b2 : c + 1 < x
  ·(repeat' first | ((first | refine vy1 ?_ ?_ | refine vy2 ?_ ?_ | refine vy3 ?_ ?_) <;> rintro ⟨hd, hq⟩ <;> first | (exfalso; omega) | simp (maxSteps := 500000) -implicitDefEqProofs only [go_sem, hd, hK.idx hc', hW.idx hx', hR.idx hy', iA, hw2, g0, dcf b1, dct b2] | skip) | refine vzt ?_ | refine vzf ?_ | refine vsb ?_ | refine vzb ?_ | refine vzq ?_ | simp (maxSteps := 500000) -implicitDefEqProofs only [go_sem, hK.idx hc', hW.idx hx', hR.idx hy', iA, hw2, g0, dcf b1, dct b2])
   exact ⟨_, rfl, by rw [bad (by omega)]; rfl⟩
  by_cases b3 : y < 0
  ·(repeat' first | ((first | refine vy1 ?_ ?_ | refine vy2 ?_ ?_ | refine vy3 ?_ ?_) <;> rintro ⟨hd, hq⟩ <;> first | (exfalso; omega) | simp (maxSteps := 500000) -implicitDefEqProofs only [go_sem, hd, hK.idx hc', hW.idx hx', hR.idx hy', iA, hw2, g0, dcf b1, dcf b2, dct b3] | skip) | refine vzt ?_ | refine vzf ?_ | refine vsb ?_ | refine vzb ?_ | refine vzq ?_ | simp (maxSteps := 500000) -implicitDefEqProofs only [go_sem, hK.idx hc', hW.idx hx', hR.idx hy', iA, hw2, g0, dcf b1, dcf b2, dct b3])
   exact ⟨_, rfl, by rw [bad (by omega)]; rfl⟩
  by_cases b6 : (k.length : Int) < y
  ·(repeat' first | ((first | refine vy1 ?_ ?_ | refine vy2 ?_ ?_ | refine vy3 ?_ ?_) <;> rintro ⟨hd, hq⟩ <;> first | (exfalso; omega) | simp (maxSteps := 500000) -implicitDefEqProofs only [go_sem, hd, hK.idx hc', hW.idx hx', hR.idx hy', iA, hw2, g0, hK.len, dcf b1, dcf b2, dcf b3, dct b6] | skip) | refine vzt ?_ | refine vzf ?_ | refine vsb ?_ | refine vzb ?_ | refine vzq ?_ | simp (maxSteps := 500000) -implicitDefEqProofs only [go_sem, hK.idx hc', hW.idx hx', hR.idx hy', iA, hw2, g0, hK.len, dcf b1, dcf b2, dcf b3, dct b6])
   exact ⟨_, rfl, by rw [bad (by omega)]; rfl⟩
  obtain ⟨m, rfl⟩ : ∃ m : Nat, y = m := ⟨y.toNat, by omega⟩
  obtain ⟨b0, hb0⟩ : ∃ b0, u[m]? = some b0 := ⟨u[m]'(by omega), by simp⟩
  have hb0' : (u.map bA)[m]? = some (bA b0) := by simp [hb0]
  have hix : (0 : Int) ≤ m ∧ (m : Int) < ((k.length + 1 : Nat) : Int) := ⟨by omega, by omega⟩
  have hm := (max_if ((r.take i).foldl max 0) m).trans (top_take hy).symm
  have good : (0 < m → x < c) → ∀ j, j < i + 1 → okI k l r j := by
   intro hg j hj
   rcases Nat.lt_or_ge j i with h' | h'
   ·exact hok j h'
   ·obtain rfl : j = i := by omega
    intro c' x' y' h1' h2' h3'
    rw [hc] at h1'; rw [hx] at h2'; rw [hy] at h3'
    cases h1'; cases h2'; cases h3'
    exact ⟨by omega, by omega, by omega, by omega, by omega⟩
  have hu' : ∀ m' : Nat, (u.set m true)[m']? = some true ↔ ∃ j, j < i + 1 ∧ r[j]? = some (m' : Int) := by
   intro m'
   rw [List.getElem?_set]
   by_cases e : m = m'
   ·subst e
    rw [if_pos rfl, if_pos (by omega)]
    exact ⟨fun _ => ⟨i, by omega, hy⟩, fun _ => rfl⟩
   ·rw [if_neg e, hu]
    constructor
    ·rintro ⟨j, hj, e2⟩; exact ⟨j, by omega, e2⟩
    ·rintro ⟨j, hj, e2⟩
     rcases Nat.lt_or_ge j i with h' | h'
     ·exact ⟨j, h', e2⟩
     ·obtain rfl : j = i := by omega
      rw [hy] at e2
      simp only [Option.some.injEq] at e2
      omega
  by_cases b5 : (0 : Int) < m
  ·by_cases b4 : c ≤ x
   ·(repeat' first | ((first | refine vy1 ?_ ?_ | refine vy2 ?_ ?_ | refine vy3 ?_ ?_) <;> rintro ⟨hd, hq⟩ <;> first | (exfalso; omega) | simp (maxSteps := 500000) -implicitDefEqProofs only [go_sem, hd, hK.idx hc', hW.idx hx', hR.idx hy', iA, hw2, g0, hK.len, dcf b1, dcf b2, dcf b3, dcf b6, dct b5, dct b4] | skip) | refine vzt ?_ | refine vzf ?_ | refine vsb ?_ | refine vzb ?_ | refine vzq ?_ | simp (maxSteps := 500000) -implicitDefEqProofs only [go_sem, hK.idx hc', hW.idx hx', hR.idx hy', iA, hw2, g0, hK.len, dcf b1, dcf b2, dcf b3, dcf b6, dct b5, dct b4])
    exact ⟨_, rfl, by rw [bad (by omega)]; rfl⟩
   ·(repeat' first | ((first | refine vy1 ?_ ?_ | refine vy2 ?_ ?_ | refine vy3 ?_ ?_) <;> rintro ⟨hd, hq⟩ <;> first | (exfalso; omega) | simp (maxSteps := 500000) -implicitDefEqProofs only [go_sem, hd, hK.idx hc', hW.idx hx', hR.idx hy', iA, hw2, g0, hK.len, dcf b1, dcf b2, dcf b3, dcf b6, dct b5, dcf b4, g1, hb0', hix, bA, hm, hw, Int.toNat_natCast, Nat.zero_add] | skip) | refine vzt ?_ | refine vzf ?_ | refine vsb ?_ | refine vzb ?_ | refine vzq ?_ | simp (maxSteps := 500000) -implicitDefEqProofs only [go_sem, hK.idx hc', hW.idx hx', hR.idx hy', iA, hw2, g0, hK.len, dcf b1, dcf b2, dcf b3, dcf b6, dct b5, dcf b4, g1, hb0', hix, bA, hm, hw, Int.toNat_natCast, Nat.zero_add])
    refine ⟨(i + 1, u.set m true), by dsimp only; omega, ⟨by dsimp only; omega, good (by omega), ?_, ?_, by simpa using hlen, hu'⟩, ?_⟩
    ·simp (maxSteps := 500000) -implicitDefEqProofs only [go_sem, g0]
    ·simp (maxSteps := 500000) -implicitDefEqProofs only [go_sem, g1, List.map_set, bA, hn]
    ·(repeat' (first | exact trivial | refine ⟨rfl, ?_⟩))
  ·(repeat' first | ((first | refine vy1 ?_ ?_ | refine vy2 ?_ ?_ | refine vy3 ?_ ?_) <;> rintro ⟨hd, hq⟩ <;> first | (exfalso; omega) | simp (maxSteps := 500000) -implicitDefEqProofs only [go_sem, hd, hK.idx hc', hW.idx hx', hR.idx hy', iA, hw2, g0, hK.len, dcf b1, dcf b2, dcf b3, dcf b6, dcf b5, g1, hb0', hix, bA, hm, hw, Int.toNat_natCast, Nat.zero_add] | skip) | refine vzt ?_ | refine vzf ?_ | refine vsb ?_ | refine vzb ?_ | refine vzq ?_ | simp (maxSteps := 500000) -implicitDefEqProofs only [go_sem, hK.idx hc', hW.idx hx', hR.idx hy', iA, hw2, g0, hK.len, dcf b1, dcf b2, dcf b3, dcf b6, dcf b5, g1, hb0', hix, bA, hm, hw, Int.toNat_natCast, Nat.zero_add])
   refine ⟨(i + 1, u.set m true), by dsimp only; omega, ⟨by dsimp only; omega, good (by omega), ?_, ?_, by simpa using hlen, hu'⟩, ?_⟩
   ·simp (maxSteps := 500000) -implicitDefEqProofs only [go_sem, g0]
   ·simp (maxSteps := 500000) -implicitDefEqProofs only [go_sem, g1, List.map_set, bA, hn]
   ·(repeat' (first | exact trivial | refine ⟨rfl, ?_⟩))
 ·obtain rfl : i = k.length := by omega
  have htop : (r.take k.length).foldl max 0 ≤ k.length := topR_take_le (by omega) fun j y hj hy => (hok j hj _ _ _ (List.getElem?_eq_getElem (by omega)) (List.getElem?_eq_getElem (by omega)) hy).2.2.2.1
  have htt : (r.take k.length).foldl max 0 = topR r := by rw [← e2, List.take_length]; rfl
  rw [htt] at htop
  rw [htt]
  (repeat' first | ((first | refine vy1 ?_ ?_ | refine vy2 ?_ ?_ | refine vy3 ?_ ?_) <;> rintro ⟨hd, hq⟩ <;> first | (exfalso; omega) | simp (maxSteps := 500000) -implicitDefEqProofs only [go_sem, hd] | skip) | refine vzt ?_ | refine vzf ?_ | refine vsb ?_ | refine vzb ?_ | refine vzq ?_ | simp (maxSteps := 500000) -implicitDefEqProofs only [go_sem])
  (first | refine Z_block_loop (ι := Nat) (fun n => [(0, K), (3, .ptr 0 0 0), (4, (AVal.sc (Value.int IntKind.i64 (0)))), (5, .slice 1 0 (k.length + 1)), (6, (AVal.sc (Value.int IntKind.i64 (topR r)))), (10, (AVal.sc (Value.int IntKind.i64 (n))))]) (fun n σ => 1 ≤ n ∧ n ≤ k.length + 1 ∧ (∀ m : Int, 1 ≤ m → m < n → m ∈ r) ∧ σ.get 1 = some (.cells 1 (u.map bA))) (fun n => k.length + 1 - n) (fun _ => rfl) 1 ?_ ?_ ?_ | refine Z_seq_loop (ι := Nat) (fun n => [(0, K), (3, .ptr 0 0 0), (4, (AVal.sc (Value.int IntKind.i64 (0)))), (5, .slice 1 0 (k.length + 1)), (6, (AVal.sc (Value.int IntKind.i64 (topR r)))), (10, (AVal.sc (Value.int IntKind.i64 (n))))]) (fun n σ => 1 ≤ n ∧ n ≤ k.length + 1 ∧ (∀ m : Int, 1 ≤ m → m < n → m ∈ r) ∧ σ.get 1 = some (.cells 1 (u.map bA))) (fun n => k.length + 1 - n) (fun _ => rfl) 1 ?_ ?_ ?_ | refine Z_loop (ι := Nat) (fun n => [(0, K), (3, .ptr 0 0 0), (4, (AVal.sc (Value.int IntKind.i64 (0)))), (5, .slice 1 0 (k.length + 1)), (6, (AVal.sc (Value.int IntKind.i64 (topR r)))), (10, (AVal.sc (Value.int IntKind.i64 (n))))]) (fun n σ => 1 ≤ n ∧ n ≤ k.length + 1 ∧ (∀ m : Int, 1 ≤ m → m < n → m ∈ r) ∧ σ.get 1 = some (.cells 1 (u.map bA))) (fun n => k.length + 1 - n) (fun _ => rfl) 1 ?_ ?_ ?_)
  ·(repeat' (first | exact trivial | refine ⟨rfl, ?_⟩))
  ·exact ⟨Nat.le_refl _, by omega, fun m h1 h2 => by omega, g1⟩
  clear g0 g1 hn
  rintro n σ ⟨hn1, hn2, hall, g1⟩
  simp (maxSteps := 500000) -implicitDefEqProofs only [go_sem]
  ((first | refine vz2 ?_ ?_ | refine vz3 ?_ ?_) <;> intro h3)
  ·obtain ⟨b0, hb0⟩ : ∃ b0, u[n]? = some b0 := ⟨u[n]'(by omega), by simp⟩
   have hb0' : (u.map bA)[n]? = some (bA b0) := by simp [hb0]
   have hix : (0 : Int) ≤ n ∧ (n : Int) < ((k.length + 1 : Nat) : Int) := ⟨by omega, by omega⟩
   have hw := wrapS (i := n) (by omega)
   cases b0 with
   | true =>
    (repeat' first | ((first | refine vy1 ?_ ?_ | refine vy2 ?_ ?_ | refine vy3 ?_ ?_) <;> rintro ⟨hd, hq⟩ <;> first | (exfalso; omega) | simp (maxSteps := 500000) -implicitDefEqProofs only [go_sem, hd, g1, hb0', hix, bA, hw, Int.toNat_natCast, Nat.zero_add] | skip) | refine vzt ?_ | refine vzf ?_ | refine vsb ?_ | refine vzb ?_ | refine vzq ?_ | simp (maxSteps := 500000) -implicitDefEqProofs only [go_sem, g1, hb0', hix, bA, hw, Int.toNat_natCast, Nat.zero_add])
    refine ⟨n + 1, by dsimp only; omega, ⟨by omega, by omega, ?_, g1⟩, ?_⟩
    ·intro m h1 h2
     by_cases h5 : m = n
     ·obtain ⟨j, _, hj⟩ := (hu n).1 hb0
      exact h5 ▸ List.mem_of_getElem? hj
     ·exact hall m h1 (by omega)
    ·(repeat' (first | exact trivial | refine ⟨rfl, ?_⟩))
   | false =>
    (repeat' first | ((first | refine vy1 ?_ ?_ | refine vy2 ?_ ?_ | refine vy3 ?_ ?_) <;> rintro ⟨hd, hq⟩ <;> first | (exfalso; omega) | simp (maxSteps := 500000) -implicitDefEqProofs only [go_sem, hd, g1, hb0', hix, bA, hw, Int.toNat_natCast, Nat.zero_add] | skip) | refine vzt ?_ | refine vzf ?_ | refine vsb ?_ | refine vzb ?_ | refine vzq ?_ | simp (maxSteps := 500000) -implicitDefEqProofs only [go_sem, g1, hb0', hix, bA, hw, Int.toNat_natCast, Nat.zero_add])
    refine ⟨_, rfl, ?_⟩
    rw [check_bad fun h => ?_]
    ·rfl
    ·have := h.2.2.2.2 n (by omega) h3
     obtain ⟨j, hj, e⟩ := List.mem_iff_getElem.1 this
     have := (hu n).2 ⟨j, by omega, by rw [List.getElem?_eq_getElem hj, e]⟩
     rw [hb0] at this
     cases this
  ·(repeat' first | ((first | refine vy1 ?_ ?_ | refine vy2 ?_ ?_ | refine vy3 ?_ ?_) <;> rintro ⟨hd, hq⟩ <;> first | (exfalso; omega) | simp (maxSteps := 500000) -implicitDefEqProofs only [go_sem, hd] | skip) | refine vzt ?_ | refine vzf ?_ | refine vsb ?_ | refine vzb ?_ | refine vzq ?_ | simp (maxSteps := 500000) -implicitDefEqProofs only [go_sem])
   exact ⟨_, rfl, by rw [check_good ⟨hf, e1, e2, hok, fun m h1 h2 => hall m h1 (by omega)⟩]; rfl⟩
end Abs
namespace Abs
set_option linter.unusedSimpArgs false
set_option linter.unusedVariables false
set_option maxRecDepth 100000
set_option maxHeartbeats 2000000
open Go Go.Proofs
def sgn (x y : Int × Int) : Int := if x.1 * y.2 < y.1 * x.2 then -1 else if x.1 * y.2 > y.1 * x.2 then 1 else 0
def cmpR (x y : Int × Int) : Int × Int := if validR x && validR y then (sgn x y, 0) else (0, 2)
theorem wholeC {w : World} (n : Int) : GivesV (EE w) 32 [(AVal.sc (Value.int IntKind.i64 (n)))] (rA (n, 1)) := by
 refine GivesV.of (fun _ => .sc _) (.cons _ _ (.sc _) .nil) 4 ?_
 refine of_32 rfl rfl rfl (by kernel_rfl) ?_
 simp (maxSteps := 500000) -implicitDefEqProofs only [go_sem, rA]
 exact ⟨_, rfl, rfl⟩
theorem validR_b {x : Int × Int} (h : validR x = true) : 0 < x.2 ∧ x.2 ≤ 2147483647 ∧ -2147483647 ≤ x.1 ∧ x.1 ≤ 2147483647 := by
 simp only [validR, Bool.and_eq_true, decide_eq_true_eq] at h
 exact ⟨h.1, h.2.1, by omega, by omega⟩
theorem mul_in {a b : Int} (ha : -2147483647 ≤ a) (ha2 : a ≤ 2147483647) (hb : 0 < b) (hb2 : b ≤ 2147483647) : -4611686018427387904 ≤ a * b ∧ a * b ≤ 4611686018427387904 := by
 have h1 : a * b ≤ 2147483647 * b := Int.mul_le_mul_of_nonneg_right ha2 (by omega)
 have h2 : (-2147483647) * b ≤ a * b := Int.mul_le_mul_of_nonneg_right ha (by omega)
 omega
theorem rcmpC {w : World} (x y : Int × Int) (h1 : in64 x.1) (h2 : in64 x.2) (h3 : in64 y.1) (h4 : in64 y.2) : GivesV (EE w) 31 [rA x, rA y] (.tuple [(AVal.sc (Value.int IntKind.i64 ((cmpR x y).1))), (AVal.sc (Value.int IntKind.i64 ((cmpR x y).2)))]) := by
 refine GivesV.of (fun _ => .sc _) (.cons _ _ (wfR x) (.cons _ _ (wfR y) .nil)) 4 ?_
 have hx : (rA x).fit = true := id rfl
 have hy : (rA y).fit = true := id rfl
 have lx : loadCs true 2 0 (rA x).cells = some (rA x) := rfl
 have ly : loadCs true 2 0 (rA y).cells = some (rA y) := rfl
 have kx : (rA x).cells.length = 2 := rfl
 have ky : (rA y).cells.length = 2 := rfl
 refine of_31 rfl rfl rfl (by kernel_rfl) ?_
 simp (maxSteps := 500000) -implicitDefEqProofs only [go_sem, hx, hy, lx, ly, kx, ky]
 refine (rvalidC x h1 h2).use ?_
 cases hv : validR x with
 | false =>
  (repeat' first | ((first | refine vy1 ?_ ?_ | refine vy2 ?_ ?_ | refine vy3 ?_ ?_) <;> rintro ⟨hd, hq⟩ <;> first | (exfalso; omega) | simp (maxSteps := 500000) -implicitDefEqProofs only [go_sem, hd, hx, hy, lx, ly, kx, ky] | skip) | refine vzt ?_ | refine vzf ?_ | refine vsb ?_ | refine vzb ?_ | refine vzq ?_ | simp (maxSteps := 500000) -implicitDefEqProofs only [go_sem, hx, hy, lx, ly, kx, ky])
  exact ⟨_, rfl, by simp only [cmpR, hv, Bool.false_and]; rfl⟩
 | true =>
  simp (maxSteps := 500000) -implicitDefEqProofs only [go_sem, hx, hy, lx, ly, kx, ky]
  refine (rvalidC y h3 h4).use ?_
  cases hv2 : validR y with
  | false =>
   (repeat' first | ((first | refine vy1 ?_ ?_ | refine vy2 ?_ ?_ | refine vy3 ?_ ?_) <;> rintro ⟨hd, hq⟩ <;> first | (exfalso; omega) | simp (maxSteps := 500000) -implicitDefEqProofs only [go_sem, hd, hx, hy, lx, ly, kx, ky] | skip) | refine vzt ?_ | refine vzf ?_ | refine vsb ?_ | refine vzb ?_ | refine vzq ?_ | simp (maxSteps := 500000) -implicitDefEqProofs only [go_sem, hx, hy, lx, ly, kx, ky])
   exact ⟨_, rfl, by simp only [cmpR, hv, hv2, Bool.and_false]; rfl⟩
  | true =>
   have hc : cmpR x y = (sgn x y, 0) := by simp only [cmpR, hv, hv2]; rfl
   rw [hc]
   obtain ⟨a1, a2, a3, a4⟩ := validR_b hv
   obtain ⟨b1, b2, b3, b4⟩ := validR_b hv2
   have w1 : IntKind.i64.wrap (x.1 * y.2) = x.1 * y.2 := by have := mul_in a3 a4 b1 b2; exact wrap64 (by omega) (by omega)
   have w2 : IntKind.i64.wrap (y.1 * x.2) = y.1 * x.2 := by have := mul_in b3 b4 a1 a2; exact wrap64 (by omega) (by omega)
   (repeat' first | ((first | refine vy1 ?_ ?_ | refine vy2 ?_ ?_ | refine vy3 ?_ ?_) <;> rintro ⟨hd, hq⟩ <;> first | (exfalso; omega) | simp (maxSteps := 500000) -implicitDefEqProofs only [go_sem, hd, hx, hy, lx, ly, kx, ky] | skip) | refine vzt ?_ | refine vzf ?_ | refine vsb ?_ | refine vzb ?_ | refine vzq ?_ | simp (maxSteps := 500000) -implicitDefEqProofs only [go_sem, hx, hy, lx, ly, kx, ky])
   ((try (refine Z_seq ?_; (try simp (maxSteps := 500000) -implicitDefEqProofs only [go_sem]))); refine Z_draw (by kernel_rfl) [0, 1, 2, 3, 4, 5, 6, 7, 8, 9, 10, 11] [(11, 2047), (10, 31), (9, 480), (8, 128), (7, 0), (6, 32), (5, 0), (4, 15), (3, 4), (2, 0), (1, 1), (0, 0)] (by kernel_rfl) (by kernel_rfl) ?_)
   simp (maxSteps := 500000) -implicitDefEqProofs only [go_sem, rA, w1, w2]
   unfold sgn
   by_cases c1 : x.1 * y.2 < y.1 * x.2
   ·rw [if_pos c1]
    (repeat' first | ((first | refine vy1 ?_ ?_ | refine vy2 ?_ ?_ | refine vy3 ?_ ?_) <;> rintro ⟨hd, hq⟩ <;> first | (exfalso; omega) | simp (maxSteps := 500000) -implicitDefEqProofs only [go_sem, hd, dct c1] | skip) | refine vzt ?_ | refine vzf ?_ | refine vsb ?_ | refine vzb ?_ | refine vzq ?_ | simp (maxSteps := 500000) -implicitDefEqProofs only [go_sem, dct c1])
    exact ⟨_, rfl, rfl⟩
   ·rw [if_neg c1]
    by_cases c2 : y.1 * x.2 < x.1 * y.2
    ·rw [if_pos c2]
     (repeat' first | ((first | refine vy1 ?_ ?_ | refine vy2 ?_ ?_ | refine vy3 ?_ ?_) <;> rintro ⟨hd, hq⟩ <;> first | (exfalso; omega) | simp (maxSteps := 500000) -implicitDefEqProofs only [go_sem, hd, dcf c1, dct c2] | skip) | refine vzt ?_ | refine vzf ?_ | refine vsb ?_ | refine vzb ?_ | refine vzq ?_ | simp (maxSteps := 500000) -implicitDefEqProofs only [go_sem, dcf c1, dct c2])
     exact ⟨_, rfl, rfl⟩
    ·rw [if_neg c2]
     (repeat' first | ((first | refine vy1 ?_ ?_ | refine vy2 ?_ ?_ | refine vy3 ?_ ?_) <;> rintro ⟨hd, hq⟩ <;> first | (exfalso; omega) | simp (maxSteps := 500000) -implicitDefEqProofs only [go_sem, hd, dcf c1, dcf c2] | skip) | refine vzt ?_ | refine vzf ?_ | refine vsb ?_ | refine vzb ?_ | refine vzq ?_ | simp (maxSteps := 500000) -implicitDefEqProofs only [go_sem, dcf c1, dcf c2])
     exact ⟨_, rfl, rfl⟩
def meetsP (s : Int) (lower strict : Bool) : Bool := if lower then decide (0 < s) || (decide (s = 0) && !strict) else decide (s < 0) || (decide (s = 0) && !strict)
def cnA (c : Int × Bool × Bool × Int) : AVal := .agg [(AVal.sc (Value.int IntKind.i64 (c.1))), (AVal.sc (Value.bool (c.2.1))), (AVal.sc (Value.bool (c.2.2.1))), (AVal.sc (Value.int IntKind.i64 (c.2.2.2)))]
theorem wfCn (c : Int × Bool × Bool × Int) : WF 0 (cnA c) := .agg _ (.cons _ _ (.sc _) (.cons _ _ (.sc _) (.cons _ _ (.sc _) (.cons _ _ (.sc _) .nil))))
theorem meetsC {w : World} (x : Int × Int) (c : Int × Bool × Bool × Int) (h1 : in64 x.1) (h2 : in64 x.2) (h3 : in64 c.2.2.2) : GivesV (EE w) 21 [rA x, cnA c] (AVal.sc (Value.bool (meetsP (cmpR x (c.2.2.2, 1)).1 c.2.1 c.2.2.1))) := by
 refine GivesV.of (fun _ => .sc _) (.cons _ _ (wfR x) (.cons _ _ (wfCn c) .nil)) 4 ?_
 have hx : (rA x).fit = true := id rfl
 have lx : loadCs true 2 0 (rA x).cells = some (rA x) := rfl
 have kx : (rA x).cells.length = 2 := rfl
 obtain ⟨c1, c2, c3, c4⟩ := c
 refine of_21 rfl rfl rfl (by kernel_rfl) ?_
 simp (maxSteps := 500000) -implicitDefEqProofs only [go_sem, hx, lx, kx, cnA]
 ((try (refine Z_seq ?_; (try simp (maxSteps := 500000) -implicitDefEqProofs only [go_sem]))); refine Z_draw (by kernel_rfl) [0, 1, 2, 3, 4, 5, 6, 7, 8, 9] [(9, 511), (8, 127), (7, 63), (6, 63), (5, 31), (4, 15), (3, 6), (2, 2), (1, 0), (0, 0)] (by kernel_rfl) (by kernel_rfl) ?_)
 simp (maxSteps := 500000) -implicitDefEqProofs only [go_sem, hx, lx, kx]
 refine (wholeC c4).useD ?_
 simp (maxSteps := 500000) -implicitDefEqProofs only [go_sem, hx, lx, kx]
 refine (rcmpC x (c4, 1) h1 h2 h3 ⟨by dsimp only; omega, by dsimp only; omega⟩).useD ?_
 generalize cmpR x (c4, 1) = q
 obtain ⟨s, e⟩ := q
 cases c2 with
 | true =>
  by_cases d1 : 0 < s
  ·(repeat' first | ((first | refine vy1 ?_ ?_ | refine vy2 ?_ ?_ | refine vy3 ?_ ?_) <;> rintro ⟨hd, hq⟩ <;> first | (exfalso; omega) | simp (maxSteps := 500000) -implicitDefEqProofs only [go_sem, hd, dct d1] | skip) | refine vzt ?_ | refine vzf ?_ | refine vsb ?_ | refine vzb ?_ | refine vzq ?_ | simp (maxSteps := 500000) -implicitDefEqProofs only [go_sem, dct d1])
   exact ⟨_, rfl, by simp [meetsP, d1]; rfl⟩
  ·by_cases d2 : s = 0
   ·subst d2
    (repeat' first | ((first | refine vy1 ?_ ?_ | refine vy2 ?_ ?_ | refine vy3 ?_ ?_) <;> rintro ⟨hd, hq⟩ <;> first | (exfalso; omega) | simp (maxSteps := 500000) -implicitDefEqProofs only [go_sem, hd] | skip) | refine vzt ?_ | refine vzf ?_ | refine vsb ?_ | refine vzb ?_ | refine vzq ?_ | simp (maxSteps := 500000) -implicitDefEqProofs only [go_sem])
    exact ⟨_, rfl, by simp [meetsP]; rfl⟩
   ·(repeat' first | ((first | refine vy1 ?_ ?_ | refine vy2 ?_ ?_ | refine vy3 ?_ ?_) <;> rintro ⟨hd, hq⟩ <;> first | (exfalso; omega) | simp (maxSteps := 500000) -implicitDefEqProofs only [go_sem, hd, dcf d1, dcf d2] | skip) | refine vzt ?_ | refine vzf ?_ | refine vsb ?_ | refine vzb ?_ | refine vzq ?_ | simp (maxSteps := 500000) -implicitDefEqProofs only [go_sem, dcf d1, dcf d2])
    exact ⟨_, rfl, by simp [meetsP, d1, d2]; rfl⟩
 | false =>
  by_cases d1 : s < 0
  ·(repeat' first | ((first | refine vy1 ?_ ?_ | refine vy2 ?_ ?_ | refine vy3 ?_ ?_) <;> rintro ⟨hd, hq⟩ <;> first | (exfalso; omega) | simp (maxSteps := 500000) -implicitDefEqProofs only [go_sem, hd, dct d1] | skip) | refine vzt ?_ | refine vzf ?_ | refine vsb ?_ | refine vzb ?_ | refine vzq ?_ | simp (maxSteps := 500000) -implicitDefEqProofs only [go_sem, dct d1])
   exact ⟨_, rfl, by simp [meetsP, d1]; rfl⟩
  ·by_cases d2 : s = 0
   ·subst d2
    (repeat' first | ((first | refine vy1 ?_ ?_ | refine vy2 ?_ ?_ | refine vy3 ?_ ?_) <;> rintro ⟨hd, hq⟩ <;> first | (exfalso; omega) | simp (maxSteps := 500000) -implicitDefEqProofs only [go_sem, hd] | skip) | refine vzt ?_ | refine vzf ?_ | refine vsb ?_ | refine vzb ?_ | refine vzq ?_ | simp (maxSteps := 500000) -implicitDefEqProofs only [go_sem])
    exact ⟨_, rfl, by simp [meetsP]; rfl⟩
   ·(repeat' first | ((first | refine vy1 ?_ ?_ | refine vy2 ?_ ?_ | refine vy3 ?_ ?_) <;> rintro ⟨hd, hq⟩ <;> first | (exfalso; omega) | simp (maxSteps := 500000) -implicitDefEqProofs only [go_sem, hd, dcf d1, dcf d2] | skip) | refine vzt ?_ | refine vzf ?_ | refine vsb ?_ | refine vzb ?_ | refine vzq ?_ | simp (maxSteps := 500000) -implicitDefEqProofs only [go_sem, dcf d1, dcf d2])
    exact ⟨_, rfl, by simp [meetsP, d1, d2]; rfl⟩
def fitsB (c : Int × Bool × Bool × Int) (x y : Int) : Bool := if x = c.2.2.2 ∧ y = 0 then !c.2.2.1 else decide (c.2.2.2 < x ∨ (x = c.2.2.2 ∧ 0 < y)) == c.2.1
theorem fitsC {w : World} {K W R : AVal} {k l r : List Int} {c : Int × Bool × Bool × Int} {i : Nat} {x y : Int} (hK : IsD 1 K (k.map iA)) (hW : IsD 1 W (l.map iA)) (hR : IsD 1 R (r.map iA)) (hi : c.1 = i + 1) (hib : i < 1000) (hx : l[i]? = some x) (hy : r[i]? = some y) :
  GivesV (EE w) 44 [K, rgA W R, cnA c] (AVal.sc (Value.bool (fitsB c x y))) := by
 refine GivesV.of (fun _ => .sc _) (.cons _ _ (hK.wf (wf_is k)) (.cons _ _ (.agg _ (.cons _ _ (hW.wf (wf_is l)) (.cons _ _ (hR.wf (wf_is r)) .nil))) (.cons _ _ (wfCn c) .nil))) 4 ?_
 obtain ⟨c1, c2, c3, c4⟩ := c
 dsimp only at hi
 subst hi
 have hx' : (l.map iA)[i]? = some (iA x) := by simp [hx]
 have hy' : (r.map iA)[i]? = some (iA y) := by simp [hy]
 have hw : IntKind.i64.wrap ((i : Int) + 1 - 1) = (i : Int) := by rw [wrap64 (by omega) (by omega)]; omega
 refine of_44 rfl rfl rfl (by kernel_rfl) ?_
 simp (maxSteps := 500000) -implicitDefEqProofs only [go_sem, rgA, cnA]
 ((try (refine Z_seq ?_; (try simp (maxSteps := 500000) -implicitDefEqProofs only [go_sem]))); refine Z_draw (by kernel_rfl) [0, 1, 2, 3, 4, 5, 6, 7, 8, 9, 10, 11, 12, 13, 14, 15] [(15, 32767), (14, 127), (13, 8064), (12, 3968), (11, 1536), (10, 512), (9, 0), (8, 128), (7, 0), (6, 63), (5, 31), (4, 12), (3, 4), (2, 0), (1, 1), (0, 0)] (by kernel_rfl) (by kernel_rfl) ?_)
 simp (maxSteps := 500000) -implicitDefEqProofs only [go_sem, hW.idx hx', hR.idx hy', hw, iA]
 by_cases d1 : c4 < x
 ·have d2 : ¬ x = c4 := by omega
  (repeat' first | ((first | refine vy1 ?_ ?_ | refine vy2 ?_ ?_ | refine vy3 ?_ ?_) <;> rintro ⟨hd, hq⟩ <;> first | (exfalso; omega) | simp (maxSteps := 500000) -implicitDefEqProofs only [go_sem, hd, dct d1, dcf d2] | skip) | refine vzt ?_ | refine vzf ?_ | refine vsb ?_ | refine vzb ?_ | refine vzq ?_ | simp (maxSteps := 500000) -implicitDefEqProofs only [go_sem, dct d1, dcf d2])
  exact ⟨_, rfl, by cases c2 <;> simp [fitsB, d1, d2] <;> rfl⟩
 ·by_cases d2 : x = c4
  ·by_cases d3 : 0 < y
   ·have d4 : ¬ y = 0 := by omega
    (repeat' first | ((first | refine vy1 ?_ ?_ | refine vy2 ?_ ?_ | refine vy3 ?_ ?_) <;> rintro ⟨hd, hq⟩ <;> first | (exfalso; omega) | simp (maxSteps := 500000) -implicitDefEqProofs only [go_sem, hd, dcf d1, dct d2, dct d3, dcf d4] | skip) | refine vzt ?_ | refine vzf ?_ | refine vsb ?_ | refine vzb ?_ | refine vzq ?_ | simp (maxSteps := 500000) -implicitDefEqProofs only [go_sem, dcf d1, dct d2, dct d3, dcf d4])
    exact ⟨_, rfl, by cases c2 <;> simp [fitsB, d2, d3, d4] <;> rfl⟩
   ·by_cases d4 : y = 0
    ·(repeat' first | ((first | refine vy1 ?_ ?_ | refine vy2 ?_ ?_ | refine vy3 ?_ ?_) <;> rintro ⟨hd, hq⟩ <;> first | (exfalso; omega) | simp (maxSteps := 500000) -implicitDefEqProofs only [go_sem, hd, dcf d1, dct d2, dcf d3, dct d4] | skip) | refine vzt ?_ | refine vzf ?_ | refine vsb ?_ | refine vzb ?_ | refine vzq ?_ | simp (maxSteps := 500000) -implicitDefEqProofs only [go_sem, dcf d1, dct d2, dcf d3, dct d4])
     exact ⟨_, rfl, by simp [fitsB, d2, d4] <;> rfl⟩
    ·(repeat' first | ((first | refine vy1 ?_ ?_ | refine vy2 ?_ ?_ | refine vy3 ?_ ?_) <;> rintro ⟨hd, hq⟩ <;> first | (exfalso; omega) | simp (maxSteps := 500000) -implicitDefEqProofs only [go_sem, hd, dcf d1, dct d2, dcf d3, dcf d4] | skip) | refine vzt ?_ | refine vzf ?_ | refine vsb ?_ | refine vzb ?_ | refine vzq ?_ | simp (maxSteps := 500000) -implicitDefEqProofs only [go_sem, dcf d1, dct d2, dcf d3, dcf d4])
     exact ⟨_, rfl, by cases c2 <;> simp [fitsB, d2, d3, d4] <;> rfl⟩
  ·(repeat' first | ((first | refine vy1 ?_ ?_ | refine vy2 ?_ ?_ | refine vy3 ?_ ?_) <;> rintro ⟨hd, hq⟩ <;> first | (exfalso; omega) | simp (maxSteps := 500000) -implicitDefEqProofs only [go_sem, hd, dcf d1, dcf d2] | skip) | refine vzt ?_ | refine vzf ?_ | refine vsb ?_ | refine vzb ?_ | refine vzq ?_ | simp (maxSteps := 500000) -implicitDefEqProofs only [go_sem, dcf d1, dcf d2])
   exact ⟨_, rfl, by cases c2 <;> simp [fitsB, d1, d2] <;> rfl⟩
end Abs
namespace Abs
set_option linter.unusedSimpArgs false
set_option linter.unusedVariables false
set_option maxRecDepth 100000
set_option maxHeartbeats 2000000
open Go Go.Proofs
def ptR (t x y : Int) : Int × Int := (makeR (x * (t + 1) + y) (t + 1)).1
def ptsR (t : Int) : List Int → List Int → List (Int × Int)
 | x :: l, y :: r => ptR t x y :: ptsR t l r
 | _, _ => []
theorem ptsR_len (t : Int) : ∀ l r : List Int, (ptsR t l r).length = min l.length r.length
 | [], _ => by simp [ptsR]
 | _ :: _, [] => by simp [ptsR]
 | _ :: l, _ :: r => by simp [ptsR, ptsR_len t l r]
theorem ptsR_get (t : Int) : ∀ (l r : List Int) (i : Nat) (x y : Int), l[i]? = some x → r[i]? = some y → (ptsR t l r)[i]? = some (ptR t x y)
  | [], _, _, _, _, h, _ => by simp at h
  | _ :: _, [], _, _, _, _, h => by simp at h
  | a :: l, b :: r, 0, x, y, h, h' => by simp at h h'; subst h h'; rfl
  | a :: l, b :: r, i + 1, x, y, h, h' => by
      simp only [List.getElem?_cons_succ] at h h'
      simpa [ptsR] using ptsR_get t l r i x y h h'
open Classical in
noncomputable def ptsP (k l r : List Int) : List (Int × Int) := if checkP k l r then ptsR (topR r) l r else []
theorem makeR_small {n d : Int} (hd : 0 < d) (hd2 : d ≤ 2147483647) (h1 : -2147483647 ≤ n) (h2 : n ≤ 2147483647) : (makeR n d).2 = 0 := by
 unfold makeR
 rw [if_neg (by omega)]
 dsimp only
 have g1 : n.natAbs / Nat.gcd n.natAbs d.natAbs ≤ n.natAbs := Nat.div_le_self _ _
 have g2 : d.natAbs / Nat.gcd n.natAbs d.natAbs ≤ d.natAbs := Nat.div_le_self _ _
 rw [if_neg (by omega)]
theorem topR_nonneg (r : List Int) : 0 ≤ topR r := by
 suffices h : ∀ (r : List Int) (a : Int), a ≤ r.foldl max a from h r 0
 intro r
 induction r with
 | nil => intro a; exact Int.le_refl _
 | cons y r ih => intro a; have := ih (max a y); simp only [List.foldl_cons]; omega
theorem pt_ok {t x y : Int} (ht : 0 ≤ t) (ht2 : t ≤ 10) (hx : 0 ≤ x) (hx2 : x ≤ 1001) (hy : 0 ≤ y) (hy2 : y ≤ 10) :
  0 ≤ x * (t + 1) + y ∧ x * (t + 1) + y ≤ 20000 ∧ makeR (x * (t + 1) + y) (t + 1) = (ptR t x y, 0) := by
 have h1 : x * (t + 1) ≤ 1001 * (t + 1) := Int.mul_le_mul_of_nonneg_right hx2 (by omega)
 have h0 : 0 ≤ x * (t + 1) := Int.mul_nonneg hx (by omega)
 have hm : (makeR (x * (t + 1) + y) (t + 1)).2 = 0 := makeR_small (by omega) (by omega) (by omega) (by omega)
 refine ⟨by omega, by omega, ?_⟩
 rw [← hm]; rfl
theorem checkP_at {k l r : List Int} (h : checkP k l r) {i : Nat} (hi : i < k.length) : ∃ c x y, k[i]? = some c ∧ l[i]? = some x ∧ r[i]? = some y ∧ -1 ≤ c ∧ c ≤ 1000 ∧ 0 ≤ x ∧ x ≤ c + 1 ∧ 0 ≤ y ∧ y ≤ k.length ∧ (0 < y → x < c) := by
 have h1 := h.2.1
 have h2 := h.2.2.1
 refine ⟨k[i], l[i]'(by omega), r[i]'(by omega), List.getElem?_eq_getElem _, List.getElem?_eq_getElem _, List.getElem?_eq_getElem _, ?_⟩
 obtain ⟨c1, c2⟩ := fine_in h.1 (List.getElem?_eq_getElem hi)
 have := h.2.2.2.1 i hi _ _ _ (List.getElem?_eq_getElem hi) (List.getElem?_eq_getElem (by omega)) (List.getElem?_eq_getElem (by omega))
 exact ⟨c1, c2, this.1, this.2.1, this.2.2.1, this.2.2.2.1, this.2.2.2.2⟩
theorem checkP_top {k l r : List Int} (h : checkP k l r) : topR r ≤ k.length := topR_le (by omega) fun y hy => by
 obtain ⟨j, hj, rfl⟩ := List.mem_iff_getElem.1 hy
 obtain ⟨c, x, y, h1, h2, h3, h4⟩ := checkP_at h (i := j) (by have := h.2.2.1; omega)
 rw [List.getElem?_eq_getElem hj] at h3
 cases h3
 omega
/-- A slice that a function has made itself, or nil; its block is not below 'm'. -/
def Gw (m : Nat) (σ : AStore) (sz : Nat) (v : AVal) (els : List AVal) : Prop := (els = [] ∧ v = (AVal.sc (Value.slice none 0 0))) ∨ ∃ b, m ≤ b ∧ v = .slice b 0 els.length ∧ σ.get b = some (.cells sz els)
theorem Gw.nil {m : Nat} {σ : AStore} {sz : Nat} : Gw m σ sz (AVal.sc (Value.slice none 0 0)) [] := .inl ⟨rfl, rfl⟩
theorem Gw.frz {m : Nat} {σ : AStore} {sz : Nat} {v : AVal} {els : List AVal} (h : Gw m σ sz v els) {n : Nat} {us : List AVal} (hu : mapO (Abs.frz σ n) els = some us) : ∃ V, Abs.frz σ (n + 1) v = some V ∧ IsD sz V us := by
 rcases h with ⟨rfl, rfl⟩ | ⟨b, _, rfl, hg⟩
 ·have : us = [] := by simpa [mapO] using hu.symm
  exact ⟨_, rfl, .inl ⟨this, _, _, rfl⟩⟩
 ·refine ⟨.data sz false us, ?_, .inr ⟨_, rfl⟩⟩
  rw [frz_slice, hg, frzS_cells (by omega)]
  have : (els.drop 0).take els.length = els := by simp
  rw [this, hu]; rfl
theorem Gw.keep {m : Nat} {σ τ : AStore} {sz : Nat} {v : AVal} {els : List AVal} (h : Gw m σ sz v els) (hk : ∀ b x, m ≤ b → σ.get b = some x → τ.get b = some x) : Gw m τ sz v els := by
 rcases h with h | ⟨b, h1, h2, h3⟩
 ·exact .inl h
 ·exact .inr ⟨b, h1, h2, hk b _ h1 h3⟩
/-- One element, built before, is appended. -/
theorem Gw.push {m : Nat} {σ : AStore} {sz : Nat} {v : AVal} {els : List AVal} (h : Gw m σ sz v els) (bytes : Nat) (y : ABlk) (x : AVal) (hm : m ≤ σ.next) (hb : (els.length + 1) * bytes ≤ 140737488355328) (h1 : sz ≠ 0) (h2 : bytes ≠ 0) (hc : allCells [x] = true) :
  ∃ σ', aAppend sz bytes v [x] (σ.alloc y) = some (.slice (σ.next + 1) 0 (els.length + 1), σ') ∧ Gw m σ' sz (.slice (σ.next + 1) 0 (els.length + 1)) (els ++ [x]) ∧ σ'.next = σ.next + 2 ∧
   (∀ b z, σ.get b = some z → (∀ l, v ≠ .slice b 0 l) → σ'.get b = some z) ∧ (∀ b z, b < m → σ.get b = some z → σ'.get b = some z) := by
 rcases h with ⟨rfl, rfl⟩ | ⟨b, hmb, rfl, hg⟩
 ·refine ⟨(σ.alloc y).alloc (.cells sz [x]), ?_, .inr ⟨σ.next + 1, by omega, rfl, ?_⟩, rfl, ?_, ?_⟩
  ·exact app_nil (by simp) (by simpa using hb) h1 h2
  ·rw [AStore.get_alloc, if_pos (by simp only [alloc_next])]; rfl
  ·intro b z hz _; exact get_alloc_old (get_alloc_old hz)
  ·intro b z _ hz; exact get_alloc_old (get_alloc_old hz)
 ·have hg' : (σ.alloc y).get b = some (.cells sz els) := get_alloc_old hg
  have kp : ∀ b' z, σ.get b' = some z → b' ≠ b → (((σ.alloc y).del b).alloc (.cells sz (els ++ [x]))).get b' = some z := by
   intro b' z hz hne
   refine get_alloc_old ?_
   rw [AStore.get_del, if_neg (fun hc => hne hc)]
   exact get_alloc_old hz
  refine ⟨((σ.alloc y).del b).alloc (.cells sz (els ++ [x])), ?_, .inr ⟨σ.next + 1, by omega, by simp, ?_⟩, rfl, ?_, ?_⟩
  ·rw [app_full hg' (by simp) hb h1 h2 hc]; rfl
  ·have : ((σ.alloc y).del b).next = σ.next + 1 := rfl
   rw [AStore.get_alloc, this, if_pos rfl]
  ·intro b' z hz hv; exact kp b' z hz fun e => by subst e; exact hv _ rfl
  ·intro b' z hb' hz; exact kp b' z hz (by omega)
theorem get_alloc_set {σ : AStore} {y z x : ABlk} {b : Nat} (h : σ.get b = some x) : ((σ.alloc y).set σ.next z).get b = some x := by
 have := AStore.lt_of_get h
 rw [AStore.get_set, if_neg (by omega)]
 exact get_alloc_old h
theorem rfl_cells (x : Int × Int) : allCells [rA x] = true := id rfl
theorem map_rA_wf (l : List (Int × Int)) : WFs 0 (l.map rA) := WFs.map fun x => wfR x
theorem mapO_rA {σ : AStore} {n : Nat} (l : List (Int × Int)) : mapO (Abs.frz σ (n + 2)) (l.map rA) = some (l.map rA) := mapO_frz (fun x => by simp only [rA, frz_agg, mapO_cons', mapO_nil', frz_sc, consM_some, frzA_some]) l
theorem mapO_iA {σ : AStore} {n : Nat} (l : List Int) : mapO (Abs.frz σ (n + 1)) (l.map iA) = some (l.map iA) := mapO_frz (fun x => by simp only [iA, frz_sc]) l
set_option maxHeartbeats 4000000 in
theorem pointC {w : World} {K W R : AVal} {k l r : List Int} (hK : IsD 1 K (k.map iA)) (hW : IsD 1 W (l.map iA)) (hR : IsD 1 R (r.map iA)) (hk : k.length ≤ 1000000) (hl : l.length ≤ 1000000) (hr : r.length ≤ 1000000) :
  Gives (EE w) 12 [K, rgA W R] fun v => ∃ V, v = .tuple [V, (AVal.sc (Value.int IntKind.i64 (checkE k l r)))] ∧ IsD 2 V ((ptsP k l r).map rA) := by
 refine Gives.of (fun _ => .sc _) (.cons _ _ (hK.wf (wf_is k)) (.cons _ _ (.agg _ (.cons _ _ (hW.wf (wf_is l)) (.cons _ _ (hR.wf (wf_is r)) .nil))) .nil)) 6 ?_
 refine of_12 rfl rfl rfl (by kernel_rfl) ?_
 simp (maxSteps := 500000) -implicitDefEqProofs only [go_sem, rgA]
 refine (checkC hK hW hR hk hl hr).use ?_
 by_cases hc : checkP k l r
 case neg =>
  rw [check_bad hc]
  (repeat' first | ((first | refine vy1 ?_ ?_ | refine vy2 ?_ ?_ | refine vy3 ?_ ?_) <;> rintro ⟨hd, hq⟩ <;> first | (exfalso; omega) | simp (maxSteps := 500000) -implicitDefEqProofs only [go_sem, hd] | skip) | refine vzt ?_ | refine vzf ?_ | refine vsb ?_ | refine vzb ?_ | refine vzq ?_ | simp (maxSteps := 500000) -implicitDefEqProofs only [go_sem])
  exact ⟨_, _, rfl, rfl, ⟨_, rfl, .inl ⟨by simp [ptsP, hc], _, _, rfl⟩⟩⟩
 rw [check_good hc, show ptsP k l r = ptsR (topR r) l r by simp [ptsP, hc]]
 have k10 := fine_len hc.1
 have e1 := hc.2.1
 have e2 := hc.2.2.1
 have t0 := topR_nonneg r
 have t1 := checkP_top hc
 (repeat' first | ((first | refine vy1 ?_ ?_ | refine vy2 ?_ ?_ | refine vy3 ?_ ?_) <;> rintro ⟨hd, hq⟩ <;> first | (exfalso; omega) | simp (maxSteps := 500000) -implicitDefEqProofs only [go_sem, hd, hR.len] | skip) | refine vzt ?_ | refine vzf ?_ | refine vsb ?_ | refine vzb ?_ | refine vzq ?_ | simp (maxSteps := 500000) -implicitDefEqProofs only [go_sem, hR.len])
 (first | refine Z_block_loop (ι := Nat) (fun i => [(0, K), (3, .ptr 0 0 0), (4, (AVal.sc (Value.slice none 0 0))), (5, (AVal.sc (Value.int IntKind.i64 (0)))), (7, (AVal.sc (Value.int IntKind.i64 ((r.take i).foldl max 0)))), (22, R), (23, (AVal.sc (Value.int IntKind.i64 (r.length)))), (24, (AVal.sc (Value.int IntKind.i64 (i))))]) (fun i σ => i ≤ r.length ∧ σ.get 0 = some (.cells 2 [.agg [W, R]])) (fun i => r.length - i) (fun _ => rfl) 0 ?_ ?_ ?_ | refine Z_seq_loop (ι := Nat) (fun i => [(0, K), (3, .ptr 0 0 0), (4, (AVal.sc (Value.slice none 0 0))), (5, (AVal.sc (Value.int IntKind.i64 (0)))), (7, (AVal.sc (Value.int IntKind.i64 ((r.take i).foldl max 0)))), (22, R), (23, (AVal.sc (Value.int IntKind.i64 (r.length)))), (24, (AVal.sc (Value.int IntKind.i64 (i))))]) (fun i σ => i ≤ r.length ∧ σ.get 0 = some (.cells 2 [.agg [W, R]])) (fun i => r.length - i) (fun _ => rfl) 0 ?_ ?_ ?_ | refine Z_loop (ι := Nat) (fun i => [(0, K), (3, .ptr 0 0 0), (4, (AVal.sc (Value.slice none 0 0))), (5, (AVal.sc (Value.int IntKind.i64 (0)))), (7, (AVal.sc (Value.int IntKind.i64 ((r.take i).foldl max 0)))), (22, R), (23, (AVal.sc (Value.int IntKind.i64 (r.length)))), (24, (AVal.sc (Value.int IntKind.i64 (i))))]) (fun i σ => i ≤ r.length ∧ σ.get 0 = some (.cells 2 [.agg [W, R]])) (fun i => r.length - i) (fun _ => rfl) 0 ?_ ?_ ?_)
 ·(repeat' (first | exact trivial | refine ⟨rfl, ?_⟩))
 ·exact ⟨Nat.zero_le _, by simp only [go_sem, reduceIte] <;> rfl⟩
 ·rintro i σ ⟨hi, g0⟩
  simp (maxSteps := 500000) -implicitDefEqProofs only [go_sem]
  ((first | refine vz2 ?_ ?_ | refine vz3 ?_ ?_) <;> intro h2)
  ·obtain ⟨c, hc⟩ : ∃ c, r[i]? = some c := ⟨r[i]'(by omega), by simp⟩
   have hc' : (r.map iA)[i]? = some (iA c) := by simp [hc]
   have hw := wrapS (i := i) (by omega)
   have hm := (max_if ((r.take i).foldl max 0) c).trans (top_take hc).symm
   (repeat' first | ((first | refine vy1 ?_ ?_ | refine vy2 ?_ ?_ | refine vy3 ?_ ?_) <;> rintro ⟨hd, hq⟩ <;> first | (exfalso; omega) | simp (maxSteps := 500000) -implicitDefEqProofs only [go_sem, hd, hR.idx hc', iA, hw, g0, hm] | skip) | refine vzt ?_ | refine vzf ?_ | refine vsb ?_ | refine vzb ?_ | refine vzq ?_ | simp (maxSteps := 500000) -implicitDefEqProofs only [go_sem, hR.idx hc', iA, hw, g0, hm])
   refine ⟨i + 1, by dsimp only; omega, ⟨by omega, g0⟩, ?_⟩
   (repeat' (first | exact trivial | refine ⟨rfl, ?_⟩))
  ·obtain rfl : i = r.length := by omega
   rw [List.take_length]
   have hn := AStore.lt_of_get g0
   have hn0 : ¬ 0 = σ.next := by omega
   change V _ _ _ _ _ _
   (repeat' first | ((first | refine vy1 ?_ ?_ | refine vy2 ?_ ?_ | refine vy3 ?_ ?_) <;> rintro ⟨hd, hq⟩ <;> first | (exfalso; omega) | simp (maxSteps := 500000) -implicitDefEqProofs only [go_sem, hd, hW.len, g0, hn0] | skip) | refine vzt ?_ | refine vzf ?_ | refine vsb ?_ | refine vzb ?_ | refine vzq ?_ | simp (maxSteps := 500000) -implicitDefEqProofs only [go_sem, hW.len, g0, hn0])
   (first | refine Z_block_loop (ι := Nat × AVal) (fun s => [(0, K), (3, .ptr 0 0 0), (7, (AVal.sc (Value.int IntKind.i64 (topR r)))), (10, s.2), (34, W), (35, (AVal.sc (Value.int IntKind.i64 (l.length)))), (36, (AVal.sc (Value.int IntKind.i64 (s.1))))]) (fun s σ => s.1 ≤ l.length ∧ σ.get 0 = some (.cells 2 [.agg [W, R]]) ∧ Gw 1 σ 2 s.2 (((ptsR (topR r) l r).take s.1).map rA)) (fun s => l.length - s.1) (fun _ => rfl) (0, .slice σ.next 0 0) ?_ ?_ ?_ | refine Z_seq_loop (ι := Nat × AVal) (fun s => [(0, K), (3, .ptr 0 0 0), (7, (AVal.sc (Value.int IntKind.i64 (topR r)))), (10, s.2), (34, W), (35, (AVal.sc (Value.int IntKind.i64 (l.length)))), (36, (AVal.sc (Value.int IntKind.i64 (s.1))))]) (fun s σ => s.1 ≤ l.length ∧ σ.get 0 = some (.cells 2 [.agg [W, R]]) ∧ Gw 1 σ 2 s.2 (((ptsR (topR r) l r).take s.1).map rA)) (fun s => l.length - s.1) (fun _ => rfl) (0, .slice σ.next 0 0) ?_ ?_ ?_ | refine Z_loop (ι := Nat × AVal) (fun s => [(0, K), (3, .ptr 0 0 0), (7, (AVal.sc (Value.int IntKind.i64 (topR r)))), (10, s.2), (34, W), (35, (AVal.sc (Value.int IntKind.i64 (l.length)))), (36, (AVal.sc (Value.int IntKind.i64 (s.1))))]) (fun s σ => s.1 ≤ l.length ∧ σ.get 0 = some (.cells 2 [.agg [W, R]]) ∧ Gw 1 σ 2 s.2 (((ptsR (topR r) l r).take s.1).map rA)) (fun s => l.length - s.1) (fun _ => rfl) (0, .slice σ.next 0 0) ?_ ?_ ?_)
   ·(repeat' (first | exact trivial | refine ⟨rfl, ?_⟩))
   ·exact ⟨Nat.zero_le _, get_alloc_old g0, .inr ⟨σ.next, by omega, by simp, by simp [AStore.get_alloc]⟩⟩
   clear g0 hn hn0
   rintro ⟨i, v⟩ σ ⟨hi, g0, hgw⟩
   simp only at hi hgw
   have hn := AStore.lt_of_get g0
   have hn0 : ¬ 0 = σ.next := by omega
   have hn1 : ¬ 0 = σ.next + 1 := by omega
   simp (maxSteps := 500000) -implicitDefEqProofs only [go_sem]
   ((first | refine vz2 ?_ ?_ | refine vz3 ?_ ?_) <;> intro h3)
   ·obtain ⟨c, x, y, -, hx, hy, -, c2, x1, x2, y1, y2, -⟩ := checkP_at hc (i := i) (by omega)
    have hx' : (l.map iA)[i]? = some (iA x) := by simp [hx]
    have hy' : (r.map iA)[i]? = some (iA y) := by simp [hy]
    have hw := wrapS (i := i) (by omega)
    obtain ⟨p1, p2, p3⟩ := pt_ok (t := topR r) (x := x) (y := y) t0 (by omega) x1 (by omega) y1 (by omega)
    have w1 : IntKind.i64.wrap (topR r + 1) = topR r + 1 := wrap64 (by omega) (by omega)
    have w2 : IntKind.i64.wrap (x * (topR r + 1)) = x * (topR r + 1) := wrap64 (by omega) (by omega)
    have w3 : IntKind.i64.wrap (x * (topR r + 1) + y) = x * (topR r + 1) + y := wrap64 (by omega) (by omega)
    have hlen : ((ptsR (topR r) l r).take i).length = i := by rw [List.length_take, ptsR_len]; omega
    have htk : (ptsR (topR r) l r).take (i + 1) = (ptsR (topR r) l r).take i ++ [ptR (topR r) x y] := by
     rw [List.take_add_one, ptsR_get _ _ _ _ _ _ hx hy]; rfl
    obtain ⟨σ', q1, q2, q3, q4, q5⟩ := (hgw.keep (τ := (σ.alloc (.cells 2 [.agg [(AVal.sc (Value.int IntKind.i64 (0))), (AVal.sc (Value.int IntKind.i64 (0)))]])).set σ.next (.cells 2 [rA (ptR (topR r) x y)])) (fun b z _ hz => get_alloc_set hz)).push 16 (.cells 2 [rA (ptR (topR r) x y)]) (rA (ptR (topR r) x y)) (by simp only [set_next, alloc_next]; omega) (by rw [List.length_map, hlen]; omega) (by decide) (by decide) (rfl_cells _)
    simp only [set_next, alloc_next, List.length_map, hlen] at q1 q2 q3
    have g0' := q5 0 _ (by omega) (get_alloc_set g0)
    (repeat' first | ((first | refine vy1 ?_ ?_ | refine vy2 ?_ ?_ | refine vy3 ?_ ?_) <;> rintro ⟨hd, hq⟩ <;> first | (exfalso; omega) | simp (maxSteps := 500000) -implicitDefEqProofs only [go_sem, hd, hW.idx hx', hR.idx hy', iA, hw, g0, hn0, w1, w2, w3] | skip) | refine vzt ?_ | refine vzf ?_ | refine vsb ?_ | refine vzb ?_ | refine vzq ?_ | simp (maxSteps := 500000) -implicitDefEqProofs only [go_sem, hW.idx hx', hR.idx hy', iA, hw, g0, hn0, w1, w2, w3])
    refine (makeC (x * (topR r + 1) + y) (topR r + 1) ⟨by omega, by omega⟩ ⟨by omega, by omega⟩).use ?_
    rw [p3]
    generalize hq : ptR (topR r) x y = q at *
    obtain ⟨qa, qb⟩ := q
    simp only [rA] at q1
    (repeat' first | ((first | refine vy1 ?_ ?_ | refine vy2 ?_ ?_ | refine vy3 ?_ ?_) <;> rintro ⟨hd, hq⟩ <;> first | (exfalso; omega) | simp (maxSteps := 500000) -implicitDefEqProofs only [go_sem, hd, rE, rA, hw, g0, hn0, hn1, q1, g0'] | skip) | refine vzt ?_ | refine vzf ?_ | refine vsb ?_ | refine vzb ?_ | refine vzq ?_ | simp (maxSteps := 500000) -implicitDefEqProofs only [go_sem, rE, rA, hw, g0, hn0, hn1, q1, g0'])
    refine ⟨(i + 1, .slice (σ.next + 1 + 1) 0 (i + 1)), by dsimp only; omega, ⟨by dsimp only; omega, g0', ?_⟩, ?_⟩
    ·rw [htk, List.map_append]; exact q2
    ·(repeat' (first | exact trivial | refine ⟨rfl, ?_⟩))
   ·obtain rfl : i = l.length := by omega
    rw [List.take_of_length_le (by rw [ptsR_len]; omega)] at hgw
    obtain ⟨V, f1, f2⟩ := hgw.frz (mapO_rA _)
    (repeat' first | ((first | refine vy1 ?_ ?_ | refine vy2 ?_ ?_ | refine vy3 ?_ ?_) <;> rintro ⟨hd, hq⟩ <;> first | (exfalso; omega) | simp (maxSteps := 500000) -implicitDefEqProofs only [go_sem, hd] | skip) | refine vzt ?_ | refine vzf ?_ | refine vsb ?_ | refine vzb ?_ | refine vzq ?_ | simp (maxSteps := 500000) -implicitDefEqProofs only [go_sem])
    exact ⟨_, _, rfl, by rw [frz_tuple, mapO_cons', mapO_cons', mapO_nil', f1]; rfl, V, rfl, f2⟩
end Abs
namespace Abs
set_option linter.unusedSimpArgs false
set_option linter.unusedVariables false
set_option maxRecDepth 100000
set_option maxHeartbeats 2000000
open Go Go.Proofs
theorem eqI_bad {l r : List Int} {i : Nat} {x y : Int} (hx : l[i]? = some x) (hy : r[i]? = some y) (h : x ≠ y) : decide (l = r) = false := dcf fun e => by rw [e, hy] at hx; cases hx; exact h rfl
set_option maxHeartbeats 4000000 in
theorem sameC {w : World} {W R W' R' : AVal} {l r l' r' : List Int} (hW : IsD 1 W (l.map iA)) (hR : IsD 1 R (r.map iA)) (hW' : IsD 1 W' (l'.map iA)) (hR' : IsD 1 R' (r'.map iA)) (hl : l.length ≤ 1000000) (hr : r.length ≤ 1000000) (hl' : l'.length ≤ 1000000) (hr' : r'.length ≤ 1000000) :
  GivesV (EE w) 9 [rgA W R, rgA W' R'] (AVal.sc (Value.bool (decide (l = l') && decide (r = r')))) := by
 refine GivesV.of (fun _ => .sc _) (.cons _ _ (.agg _ (.cons _ _ (hW.wf (wf_is l)) (.cons _ _ (hR.wf (wf_is r)) .nil))) (.cons _ _ (.agg _ (.cons _ _ (hW'.wf (wf_is l')) (.cons _ _ (hR'.wf (wf_is r')) .nil))) .nil)) 4 ?_
 refine of_9 rfl rfl rfl (by kernel_rfl) ?_
 simp (maxSteps := 500000) -implicitDefEqProofs only [go_sem, rgA, hW.len, hW'.len]
 by_cases e1 : l.length = l'.length
 case neg =>
  have e1' : ¬ (l.length : Int) = l'.length := by omega
  (repeat' first | ((first | refine vy1 ?_ ?_ | refine vy2 ?_ ?_ | refine vy3 ?_ ?_) <;> rintro ⟨hd, hq⟩ <;> first | (exfalso; omega) | simp (maxSteps := 500000) -implicitDefEqProofs only [go_sem, hd, hW.len, hW'.len, dcf e1', dct e1'] | skip) | refine vzt ?_ | refine vzf ?_ | refine vsb ?_ | refine vzb ?_ | refine vzq ?_ | simp (maxSteps := 500000) -implicitDefEqProofs only [go_sem, hW.len, hW'.len, dcf e1', dct e1'])
  exact ⟨_, rfl, by rw [dcf (fun h => e1 (by rw [h])), Bool.false_and]; rfl⟩
 by_cases e2 : r.length = r'.length
 case neg =>
  have e2' : ¬ (r.length : Int) = r'.length := by omega
  (repeat' first | ((first | refine vy1 ?_ ?_ | refine vy2 ?_ ?_ | refine vy3 ?_ ?_) <;> rintro ⟨hd, hq⟩ <;> first | (exfalso; omega) | simp (maxSteps := 500000) -implicitDefEqProofs only [go_sem, hd, hW.len, hW'.len, hR.len, hR'.len, e1, dcf e2', dct e2'] | skip) | refine vzt ?_ | refine vzf ?_ | refine vsb ?_ | refine vzb ?_ | refine vzq ?_ | simp (maxSteps := 500000) -implicitDefEqProofs only [go_sem, hW.len, hW'.len, hR.len, hR'.len, e1, dcf e2', dct e2'])
  exact ⟨_, rfl, by rw [show decide (r = r') = false from dcf fun h => e2 (by rw [h]), Bool.and_false]; rfl⟩
 (repeat' first | ((first | refine vy1 ?_ ?_ | refine vy2 ?_ ?_ | refine vy3 ?_ ?_) <;> rintro ⟨hd, hq⟩ <;> first | (exfalso; omega) | simp (maxSteps := 500000) -implicitDefEqProofs only [go_sem, hd, hW.len, hW'.len, hR.len, hR'.len, e1, e2] | skip) | refine vzt ?_ | refine vzf ?_ | refine vsb ?_ | refine vzb ?_ | refine vzq ?_ | simp (maxSteps := 500000) -implicitDefEqProofs only [go_sem, hW.len, hW'.len, hR.len, hR'.len, e1, e2])
 (first | refine Z_block_loop (ι := Nat) (fun i => [(2, .ptr 0 0 0), (3, .ptr 1 0 0), (4, (AVal.sc (Value.bool (false)))), (5, (AVal.sc (Value.int IntKind.i64 (i))))]) (fun i σ => i ≤ l.length ∧ l.take i = l'.take i ∧ σ.get 0 = some (.cells 2 [.agg [W, R]]) ∧ σ.get 1 = some (.cells 2 [.agg [W', R']])) (fun i => l.length - i) (fun _ => rfl) 0 ?_ ?_ ?_ | refine Z_seq_loop (ι := Nat) (fun i => [(2, .ptr 0 0 0), (3, .ptr 1 0 0), (4, (AVal.sc (Value.bool (false)))), (5, (AVal.sc (Value.int IntKind.i64 (i))))]) (fun i σ => i ≤ l.length ∧ l.take i = l'.take i ∧ σ.get 0 = some (.cells 2 [.agg [W, R]]) ∧ σ.get 1 = some (.cells 2 [.agg [W', R']])) (fun i => l.length - i) (fun _ => rfl) 0 ?_ ?_ ?_ | refine Z_loop (ι := Nat) (fun i => [(2, .ptr 0 0 0), (3, .ptr 1 0 0), (4, (AVal.sc (Value.bool (false)))), (5, (AVal.sc (Value.int IntKind.i64 (i))))]) (fun i σ => i ≤ l.length ∧ l.take i = l'.take i ∧ σ.get 0 = some (.cells 2 [.agg [W, R]]) ∧ σ.get 1 = some (.cells 2 [.agg [W', R']])) (fun i => l.length - i) (fun _ => rfl) 0 ?_ ?_ ?_)
 ·(repeat' (first | exact trivial | refine ⟨rfl, ?_⟩))
 ·exact ⟨Nat.zero_le _, rfl, by simp only [go_sem, reduceIte] <;> rfl, by simp only [go_sem, reduceIte] <;> rfl⟩
 rintro i σ ⟨hi, heq, g0, g1⟩
 have hn := AStore.lt_of_get g1
 have hn0 : ¬ 0 = σ.next := by omega
 have hn1 : ¬ 1 = σ.next := by omega
 simp (maxSteps := 500000) -implicitDefEqProofs only [go_sem, g0, g1, hn0, hn1, hW.len]
 ((first | refine vz2 ?_ ?_ | refine vz3 ?_ ?_) <;> intro h2)
 ·obtain ⟨x, hx⟩ : ∃ c, l[i]? = some c := ⟨l[i]'(by omega), by simp⟩
  obtain ⟨y, hy⟩ : ∃ c, l'[i]? = some c := ⟨l'[i]'(by omega), by simp⟩
  have hx' : (l.map iA)[i]? = some (iA x) := by simp [hx]
  have hy' : (l'.map iA)[i]? = some (iA y) := by simp [hy]
  have hw := wrapS (i := i) (by omega)
  (repeat' first | ((first | refine vy1 ?_ ?_ | refine vy2 ?_ ?_ | refine vy3 ?_ ?_) <;> rintro ⟨hd, hq⟩ <;> first | (exfalso; omega) | simp (maxSteps := 500000) -implicitDefEqProofs only [go_sem, hd] | skip) | refine vzt ?_ | refine vzf ?_ | refine vsb ?_ | refine vzb ?_ | refine vzq ?_ | simp (maxSteps := 500000) -implicitDefEqProofs only [go_sem])
  ((try (refine Z_seq ?_; (try simp (maxSteps := 500000) -implicitDefEqProofs only [go_sem]))); refine Z_draw (by kernel_rfl) [0, 1, 2, 3, 4, 5, 6, 7, 8, 9, 10] [(10, 1023), (9, 480), (8, 224), (7, 0), (6, 32), (5, 0), (4, 15), (3, 7), (2, 0), (1, 1), (0, 0)] (by kernel_rfl) (by kernel_rfl) ?_)
  by_cases h3 : x = y
  ·(repeat' first | ((first | refine vy1 ?_ ?_ | refine vy2 ?_ ?_ | refine vy3 ?_ ?_) <;> rintro ⟨hd, hq⟩ <;> first | (exfalso; omega) | simp (maxSteps := 500000) -implicitDefEqProofs only [go_sem, hd, hW.idx hx', hW'.idx hy', iA, hw, hn0, hn1, g0, g1, dct h3, Bool.not_true] | skip) | refine vzt ?_ | refine vzf ?_ | refine vsb ?_ | refine vzb ?_ | refine vzq ?_ | simp (maxSteps := 500000) -implicitDefEqProofs only [go_sem, hW.idx hx', hW'.idx hy', iA, hw, hn0, hn1, g0, g1, dct h3, Bool.not_true])
   refine ⟨i + 1, by dsimp only; omega, ⟨by omega, ?_, g0, g1⟩, ?_⟩
   ·rw [List.take_add_one, List.take_add_one, heq, hx, hy, h3]
   ·(repeat' (first | exact trivial | refine ⟨rfl, ?_⟩))
  ·(repeat' first | ((first | refine vy1 ?_ ?_ | refine vy2 ?_ ?_ | refine vy3 ?_ ?_) <;> rintro ⟨hd, hq⟩ <;> first | (exfalso; omega) | simp (maxSteps := 500000) -implicitDefEqProofs only [go_sem, hd, hW.idx hx', hW'.idx hy', iA, hw, hn0, hn1, g0, g1, dcf h3, Bool.not_false] | skip) | refine vzt ?_ | refine vzf ?_ | refine vsb ?_ | refine vzb ?_ | refine vzq ?_ | simp (maxSteps := 500000) -implicitDefEqProofs only [go_sem, hW.idx hx', hW'.idx hy', iA, hw, hn0, hn1, g0, g1, dcf h3, Bool.not_false])
   exact ⟨_, rfl, by rw [eqI_bad hx hy h3, Bool.false_and]; rfl⟩
 ·obtain rfl : i = l.length := by omega
  have hll : l = l' := by rw [List.take_length, e1, List.take_length] at heq; exact heq
  rw [dct hll, Bool.true_and]
  (repeat' first | ((first | refine vy1 ?_ ?_ | refine vy2 ?_ ?_ | refine vy3 ?_ ?_) <;> rintro ⟨hd, hq⟩ <;> first | (exfalso; omega) | simp (maxSteps := 500000) -implicitDefEqProofs only [go_sem, hd] | skip) | refine vzt ?_ | refine vzf ?_ | refine vsb ?_ | refine vzb ?_ | refine vzq ?_ | simp (maxSteps := 500000) -implicitDefEqProofs only [go_sem])
  (first | refine Z_block_loop (ι := Nat) (fun i => [(2, .ptr 0 0 0), (3, .ptr 1 0 0), (4, (AVal.sc (Value.bool (false)))), (6, (AVal.sc (Value.int IntKind.i64 (i))))]) (fun i σ => i ≤ r.length ∧ r.take i = r'.take i ∧ σ.get 0 = some (.cells 2 [.agg [W, R]]) ∧ σ.get 1 = some (.cells 2 [.agg [W', R']])) (fun i => r.length - i) (fun _ => rfl) 0 ?_ ?_ ?_ | refine Z_seq_loop (ι := Nat) (fun i => [(2, .ptr 0 0 0), (3, .ptr 1 0 0), (4, (AVal.sc (Value.bool (false)))), (6, (AVal.sc (Value.int IntKind.i64 (i))))]) (fun i σ => i ≤ r.length ∧ r.take i = r'.take i ∧ σ.get 0 = some (.cells 2 [.agg [W, R]]) ∧ σ.get 1 = some (.cells 2 [.agg [W', R']])) (fun i => r.length - i) (fun _ => rfl) 0 ?_ ?_ ?_ | refine Z_loop (ι := Nat) (fun i => [(2, .ptr 0 0 0), (3, .ptr 1 0 0), (4, (AVal.sc (Value.bool (false)))), (6, (AVal.sc (Value.int IntKind.i64 (i))))]) (fun i σ => i ≤ r.length ∧ r.take i = r'.take i ∧ σ.get 0 = some (.cells 2 [.agg [W, R]]) ∧ σ.get 1 = some (.cells 2 [.agg [W', R']])) (fun i => r.length - i) (fun _ => rfl) 0 ?_ ?_ ?_)
  ·(repeat' (first | exact trivial | refine ⟨rfl, ?_⟩))
  ·exact ⟨Nat.zero_le _, rfl, g0, g1⟩
  clear g0 g1 hn hn0 hn1 hi heq
  rintro i σ ⟨hi, heq, g0, g1⟩
  have hn := AStore.lt_of_get g1
  have hn0 : ¬ 0 = σ.next := by omega
  have hn1 : ¬ 1 = σ.next := by omega
  simp (maxSteps := 500000) -implicitDefEqProofs only [go_sem, g0, g1, hn0, hn1, hR.len]
  ((first | refine vz2 ?_ ?_ | refine vz3 ?_ ?_) <;> intro h2)
  ·obtain ⟨x, hx⟩ : ∃ c, r[i]? = some c := ⟨r[i]'(by omega), by simp⟩
   obtain ⟨y, hy⟩ : ∃ c, r'[i]? = some c := ⟨r'[i]'(by omega), by simp⟩
   have hx' : (r.map iA)[i]? = some (iA x) := by simp [hx]
   have hy' : (r'.map iA)[i]? = some (iA y) := by simp [hy]
   have hw := wrapS (i := i) (by omega)
   (repeat' first | ((first | refine vy1 ?_ ?_ | refine vy2 ?_ ?_ | refine vy3 ?_ ?_) <;> rintro ⟨hd, hq⟩ <;> first | (exfalso; omega) | simp (maxSteps := 500000) -implicitDefEqProofs only [go_sem, hd] | skip) | refine vzt ?_ | refine vzf ?_ | refine vsb ?_ | refine vzb ?_ | refine vzq ?_ | simp (maxSteps := 500000) -implicitDefEqProofs only [go_sem])
   ((try (refine Z_seq ?_; (try simp (maxSteps := 500000) -implicitDefEqProofs only [go_sem]))); refine Z_draw (by kernel_rfl) [0, 1, 2, 3, 4, 5, 6, 7, 8, 9, 10] [(10, 1023), (9, 480), (8, 224), (7, 0), (6, 32), (5, 0), (4, 15), (3, 7), (2, 0), (1, 1), (0, 0)] (by kernel_rfl) (by kernel_rfl) ?_)
   by_cases h3 : x = y
   ·(repeat' first | ((first | refine vy1 ?_ ?_ | refine vy2 ?_ ?_ | refine vy3 ?_ ?_) <;> rintro ⟨hd, hq⟩ <;> first | (exfalso; omega) | simp (maxSteps := 500000) -implicitDefEqProofs only [go_sem, hd, hR.idx hx', hR'.idx hy', iA, hw, hn0, hn1, g0, g1, dct h3, Bool.not_true] | skip) | refine vzt ?_ | refine vzf ?_ | refine vsb ?_ | refine vzb ?_ | refine vzq ?_ | simp (maxSteps := 500000) -implicitDefEqProofs only [go_sem, hR.idx hx', hR'.idx hy', iA, hw, hn0, hn1, g0, g1, dct h3, Bool.not_true])
    refine ⟨i + 1, by dsimp only; omega, ⟨by omega, ?_, g0, g1⟩, ?_⟩
    ·rw [List.take_add_one, List.take_add_one, heq, hx, hy, h3]
    ·(repeat' (first | exact trivial | refine ⟨rfl, ?_⟩))
   ·(repeat' first | ((first | refine vy1 ?_ ?_ | refine vy2 ?_ ?_ | refine vy3 ?_ ?_) <;> rintro ⟨hd, hq⟩ <;> first | (exfalso; omega) | simp (maxSteps := 500000) -implicitDefEqProofs only [go_sem, hd, hR.idx hx', hR'.idx hy', iA, hw, hn0, hn1, g0, g1, dcf h3, Bool.not_false] | skip) | refine vzt ?_ | refine vzf ?_ | refine vsb ?_ | refine vzb ?_ | refine vzq ?_ | simp (maxSteps := 500000) -implicitDefEqProofs only [go_sem, hR.idx hx', hR'.idx hy', iA, hw, hn0, hn1, g0, g1, dcf h3, Bool.not_false])
    exact ⟨_, rfl, by rw [eqI_bad hx hy h3]; rfl⟩
  ·obtain rfl : i = r.length := by omega
   have hrr : r = r' := by rw [List.take_length, e2, List.take_length] at heq; exact heq
   rw [dct hrr]
   (repeat' first | ((first | refine vy1 ?_ ?_ | refine vy2 ?_ ?_ | refine vy3 ?_ ?_) <;> rintro ⟨hd, hq⟩ <;> first | (exfalso; omega) | simp (maxSteps := 500000) -implicitDefEqProofs only [go_sem, hd] | skip) | refine vzt ?_ | refine vzf ?_ | refine vsb ?_ | refine vzb ?_ | refine vzq ?_ | simp (maxSteps := 500000) -implicitDefEqProofs only [go_sem])
   exact ⟨_, rfl, rfl⟩
end Abs
namespace Abs
set_option linter.unusedSimpArgs false
set_option linter.unusedVariables false
set_option maxRecDepth 100000
set_option maxHeartbeats 2000000
open Go Go.Proofs
/-- Both lists lie in memory of one's own. -/
structure Two (m : Nat) (σ : AStore) (b1 b2 : Nat) (l r : List Int) : Prop where
 ne : b1 ≠ b2
 m1 : m ≤ b1
 m2 : m ≤ b2
 g1 : σ.get b1 = some (.cells 1 (l.map iA))
 g2 : σ.get b2 = some (.cells 1 (r.map iA))
def CopyC (w : World) (f : Nat) : Prop := ∀ {W R : AVal} {l r : List Int} {σ : AStore}, IsD 1 W (l.map iA) → IsD 1 R (r.map iA) → l ≠ [] → r ≠ [] → l.length ≤ 1000000 → r.length ≤ 1000000 →
 ACalls (EE w) f [rgA W R] σ fun e σ' => ∃ b1 b2, e = .ret (rgA (.slice b1 0 l.length) (.slice b2 0 r.length)) ∧ Two σ.next σ' b1 b2 l r ∧ σ.next ≤ σ'.next ∧ ∀ b x, σ.get b = some x → σ'.get b = some x
theorem app_data {σ : AStore} {sz bytes : Nat} {xs : List AVal} (hx : xs ≠ []) (h : xs.length * bytes ≤ 140737488355328) (h2 : bytes ≠ 0) :
  aAppend sz bytes (.data sz true []) xs σ = some (.slice σ.next 0 xs.length, σ.alloc (.cells sz xs)) := by
 have hp : xs.length ≠ 0 := by cases xs <;> simp_all
 simp only [aAppend, aAppend0]
 rw [if_neg hp, if_pos ⟨trivial, trivial, by simpa using h, h2⟩]
 simp
theorem getA {σ : AStore} {x : ABlk} : (σ.alloc x).get σ.next = some x := by rw [AStore.get_alloc, if_pos rfl]
theorem copy1C {w : World} : CopyC w 39 := by
 intro W R l r σ hW hR hl0 hr0 hl hr
 have hl1 : l.map iA ≠ [] := by simpa using hl0
 have hr1 : r.map iA ≠ [] := by simpa using hr0
 have a1 : ∀ (σ : AStore), aAppend 1 8 (.data 1 true []) (l.map iA) σ = some (.slice σ.next 0 (l.map iA).length, σ.alloc (.cells 1 (l.map iA))) := fun σ => app_data hl1 (by simp; omega) (by decide)
 have a2 : ∀ (σ : AStore), aAppend 1 8 (.data 1 true []) (r.map iA) σ = some (.slice σ.next 0 (r.map iA).length, σ.alloc (.cells 1 (r.map iA))) := fun σ => app_data hr1 (by simp; omega) (by decide)
 obtain ⟨t1, rfl⟩ : ∃ t, W = .data 1 t (l.map iA) := by
  rcases hW with ⟨h, _⟩ | h
  ·exact absurd h hl1
  ·exact h
 obtain ⟨t2, rfl⟩ : ∃ t, R = .data 1 t (r.map iA) := by
  rcases hR with ⟨h, _⟩ | h
  ·exact absurd h hr1
  ·exact h
 have n1 : ¬ σ.next = σ.next + 1 := by omega
 have n2 : ¬ σ.next = σ.next + 1 + 1 := by omega
 have n3 : ¬ σ.next + 1 = σ.next + 1 + 1 := by omega
 have n4 : ¬ σ.next = σ.next + 1 + 1 + 1 := by omega
 have n5 : ¬ σ.next + 1 = σ.next + 1 + 1 + 1 := by omega
 have n6 : ¬ σ.next + 1 + 1 = σ.next + 1 + 1 + 1 := by omega
 refine of_39 rfl rfl rfl (by kernel_rfl) ?_
 simp (maxSteps := 500000) -implicitDefEqProofs only [go_sem, rgA]
 (repeat' first | ((first | refine vy1 ?_ ?_ | refine vy2 ?_ ?_ | refine vy3 ?_ ?_) <;> rintro ⟨hd, hq⟩ <;> first | (exfalso; omega) | simp (maxSteps := 500000) -implicitDefEqProofs only [go_sem, hd] | skip) | refine vzt ?_ | refine vzf ?_ | refine vsb ?_ | refine vzb ?_ | refine vzq ?_ | simp (maxSteps := 500000) -implicitDefEqProofs only [go_sem])
 ((try (refine Z_seq ?_; (try simp (maxSteps := 500000) -implicitDefEqProofs only [go_sem]))); refine Z_draw (by kernel_rfl) [0, 1, 2, 4, 5, 6, 3, 7, 8, 9] [(9, 511), (8, 255), (7, 127), (3, 7), (6, 32), (5, 0), (4, 0), (2, 2), (1, 0), (0, 0)] (by kernel_rfl) (by kernel_rfl) ?_)
 have l1 : σ.next + 1 < σ.next + 1 + 1 + 1 + 1 := by omega
 simp (maxSteps := 500000) -implicitDefEqProofs only [go_sem, a1, a2, n1, n2, n3, n4, n5, n6, l1, List.length_map]
 refine ⟨σ.next + 1 + 1, σ.next + 1 + 1 + 1, rfl, ⟨by omega, by omega, by omega, ?_, ?_⟩, by omega, ?_⟩
 ·simp only [AStore.get_set, AStore.get_alloc, alloc_next]
  rw [if_neg (by omega), if_neg (by omega), if_pos trivial]
 ·simp only [AStore.get_set, AStore.get_alloc, alloc_next]
  rw [if_neg (by omega), if_pos trivial]
 ·intro b x hx
  have := AStore.lt_of_get hx
  try simp only [AStore.get_set, AStore.get_alloc, alloc_next]
  rw [if_neg (by omega), if_neg (by omega), if_neg (by omega), if_neg (by omega), if_neg (by omega)]
  exact hx
end Abs
namespace Abs
set_option linter.unusedSimpArgs false
set_option linter.unusedVariables false
set_option maxRecDepth 100000
set_option maxHeartbeats 2000000
open Go Go.Proofs
theorem makeR_cross {n d : Int} {q : Int × Int} (h : makeR n d = (q, 0)) (hd : 0 < d) : q.1 * d = n * q.2 := by
 unfold makeR at h
 rw [if_neg (by omega)] at h
 dsimp only at h
 split at h
 ·simp at h
 ·simp only [Prod.mk.injEq, and_true] at h
  subst h
  have hg1 : Nat.gcd n.natAbs d.natAbs ∣ n.natAbs := Nat.gcd_dvd_left _ _
  have hg2 : Nat.gcd n.natAbs d.natAbs ∣ d.natAbs := Nat.gcd_dvd_right _ _
  have e : n.natAbs / Nat.gcd n.natAbs d.natAbs * d.natAbs = n.natAbs * (d.natAbs / Nat.gcd n.natAbs d.natAbs) := by
   rw [← Nat.mul_div_assoc _ hg2, Nat.mul_comm, ← Nat.mul_div_assoc _ hg1, Nat.mul_comm]
  have ed : (d.natAbs : Int) = d := by omega
  have e' : ((n.natAbs / Nat.gcd n.natAbs d.natAbs : Nat) : Int) * d = (n.natAbs : Int) * ((d.natAbs / Nat.gcd n.natAbs d.natAbs : Nat) : Int) := by
   have := congrArg (Nat.cast (R := Int)) e
   rw [Int.natCast_mul, Int.natCast_mul, ed] at this
   exact this
  dsimp only
  have hdn : decide (d < 0) = false := dcf (by omega)
  rw [hdn]
  by_cases hn : n < 0
  ·rw [if_neg (by simp [hn]), Int.neg_mul, e', ← Int.neg_mul]
   congr 1; omega
  ·rw [if_pos (by simp [hn]), e']
   congr 1; omega
theorem le_topR {r : List Int} {i : Nat} {y : Int} (hy : r[i]? = some y) : y ≤ topR r := by
 suffices h : ∀ (r : List Int) (a : Int) (i : Nat), r[i]? = some y → y ≤ r.foldl max a from h r 0 i hy
 have mono : ∀ (r : List Int) (a : Int), a ≤ r.foldl max a := by
  intro r
  induction r with
  | nil => intro a; exact Int.le_refl _
  | cons z r ih => intro a; have := ih (max a z); simp only [List.foldl_cons]; omega
 intro r
 induction r with
 | nil => intro a i h; simp at h
 | cons z r ih =>
  intro a i h
  cases i with
  | zero => simp at h; subst h; have := mono r (max a z); simp only [List.foldl_cons]; omega
  | succ i => exact ih _ i (by simpa using h)
def fitOk (k l r : List Int) (c : Int × Bool × Bool × Int) : Prop := checkP k l r ∧ 1 ≤ c.1 ∧ c.1 ≤ k.length ∧ 0 ≤ c.2.2.2 ∧ ∀ q, k[(c.1 - 1).toNat]? = some q → c.2.2.2 ≤ q
open Classical in
noncomputable def fitR (k l r : List Int) (c : Int × Bool × Bool × Int) : Bool × Int := if fitOk k l r c then (fitsB c ((l[(c.1 - 1).toNat]?).getD 0) ((r[(c.1 - 1).toNat]?).getD 0), 0) else (false, 2)
theorem fit_bad {k l r : List Int} {c : Int × Bool × Bool × Int} (h : ¬ fitOk k l r c) : fitR k l r c = (false, 2) := if_neg h
theorem fit_good {k l r : List Int} {c : Int × Bool × Bool × Int} {i : Nat} {x y q : Int} (h : checkP k l r) (hi : c.1 = (i : Int) + 1) (hk : k[i]? = some q) (hx : l[i]? = some x) (hy : r[i]? = some y) (h0 : 0 ≤ c.2.2.2) (h1 : c.2.2.2 ≤ q) : fitR k l r c = (fitsB c x y, 0) := by
 have hi' : (c.1 - 1).toNat = i := by omega
 have hlen : i < k.length := by
  rcases Nat.lt_or_ge i k.length with h' | h'
  ·exact h'
  ·rw [List.getElem?_eq_none h'] at hk; cases hk
 unfold fitR
 rw [if_pos ⟨h, by omega, by omega, h0, by rw [hi', hk]; rintro q' ⟨⟩; exact h1⟩, hi', hx, hy]
 rfl
def FitC (w : World) (f : Nat) : Prop := ∀ {K W R : AVal} {k l r : List Int} {c : Int × Bool × Bool × Int}, IsD 1 K (k.map iA) → IsD 1 W (l.map iA) → IsD 1 R (r.map iA) → k.length ≤ 1000000 → l.length ≤ 1000000 → r.length ≤ 1000000 → in64 c.1 → in64 c.2.2.2 →
 GivesV (EE w) f [K, rgA W R, cnA c] (.tuple [(AVal.sc (Value.bool ((fitR k l r c).1))), (AVal.sc (Value.int IntKind.i64 ((fitR k l r c).2)))])
set_option maxHeartbeats 4000000 in
theorem fits1C {w : World} : FitC w 19 := by
 intro K W R k l r c hK hW hR hk hl hr hc1 hc4
 refine GivesV.of (fun _ => .sc _) (.cons _ _ (hK.wf (wf_is k)) (.cons _ _ (.agg _ (.cons _ _ (hW.wf (wf_is l)) (.cons _ _ (hR.wf (wf_is r)) .nil))) (.cons _ _ (wfCn c) .nil))) 4 ?_
 obtain ⟨c1, c2, c3, c4⟩ := c
 dsimp only at hc1 hc4
 refine of_19 rfl rfl rfl (by kernel_rfl) ?_
 simp (maxSteps := 500000) -implicitDefEqProofs only [go_sem, rgA, cnA]
 (repeat' first | ((first | refine vy1 ?_ ?_ | refine vy2 ?_ ?_ | refine vy3 ?_ ?_) <;> rintro ⟨hd, hq⟩ <;> first | (exfalso; omega) | simp (maxSteps := 500000) -implicitDefEqProofs only [go_sem, hd] | skip) | refine vzt ?_ | refine vzf ?_ | refine vsb ?_ | refine vzb ?_ | refine vzq ?_ | simp (maxSteps := 500000) -implicitDefEqProofs only [go_sem])
 ((try (refine Z_seq ?_; (try simp (maxSteps := 500000) -implicitDefEqProofs only [go_sem]))); refine Z_draw (by kernel_rfl) [0, 1, 2, 3, 4, 5, 6, 7, 8, 9, 10, 11, 12, 13, 14, 15, 16, 17, 18, 19, 20, 21, 22, 23, 24, 25, 26, 27, 28, 29, 30, 31] [(31, 2147483647), (30, 1073741823), (29, 524287999), (28, 255852543), (27, 104857599), (26, 37748735), (25, 4194303), (24, 4194303), (23, 8388607), (22, 4194303), (21, 2097151), (20, 1048575), (19, 524287), (18, 262143), (17, 131071), (16, 65535), (15, 32767), (14, 16383), (13, 5119), (12, 1023), (11, 2047), (10, 1023), (9, 511), (8, 255), (7, 127), (6, 63), (5, 31), (4, 15), (3, 7), (2, 3), (1, 0), (0, 0)] (by kernel_rfl) (by kernel_rfl) ?_)
 simp (maxSteps := 500000) -implicitDefEqProofs only [go_sem]
 refine (checkC hK hW hR hk hl hr).useD ?_
 by_cases hc : checkP k l r
 case neg =>
  rw [check_bad hc, fit_bad fun h => hc h.1]
  have d20 : decide ((2 : Int) = 0) = false := by decide
  simp (maxSteps := 500000) -implicitDefEqProofs only [go_sem, d20]
  (repeat' first | ((first | refine vy1 ?_ ?_ | refine vy2 ?_ ?_ | refine vy3 ?_ ?_) <;> rintro ⟨hd, hq⟩ <;> first | (exfalso; omega) | simp (maxSteps := 500000) -implicitDefEqProofs only [go_sem, hd] | skip) | refine vzt ?_ | refine vzf ?_ | refine vsb ?_ | refine vzb ?_ | refine vzq ?_ | simp (maxSteps := 500000) -implicitDefEqProofs only [go_sem])
  exact ⟨_, rfl, rfl⟩
 rw [check_good hc]
 by_cases d1 : c1 < 1
 ·rw [fit_bad fun h => by have := h.2.1; dsimp only at this; omega]
  simp (maxSteps := 500000) -implicitDefEqProofs only [go_sem, dct d1]
  (repeat' first | ((first | refine vy1 ?_ ?_ | refine vy2 ?_ ?_ | refine vy3 ?_ ?_) <;> rintro ⟨hd, hq⟩ <;> first | (exfalso; omega) | simp (maxSteps := 500000) -implicitDefEqProofs only [go_sem, hd] | skip) | refine vzt ?_ | refine vzf ?_ | refine vsb ?_ | refine vzb ?_ | refine vzq ?_ | simp (maxSteps := 500000) -implicitDefEqProofs only [go_sem])
  exact ⟨_, rfl, rfl⟩
 by_cases d2 : (k.length : Int) < c1
 ·rw [fit_bad fun h => by have := h.2.2.1; dsimp only at this; omega]
  simp (maxSteps := 500000) -implicitDefEqProofs only [go_sem, hK.len, dcf d1, dct d2]
  (repeat' first | ((first | refine vy1 ?_ ?_ | refine vy2 ?_ ?_ | refine vy3 ?_ ?_) <;> rintro ⟨hd, hq⟩ <;> first | (exfalso; omega) | simp (maxSteps := 500000) -implicitDefEqProofs only [go_sem, hd] | skip) | refine vzt ?_ | refine vzf ?_ | refine vsb ?_ | refine vzb ?_ | refine vzq ?_ | simp (maxSteps := 500000) -implicitDefEqProofs only [go_sem])
  exact ⟨_, rfl, rfl⟩
 by_cases d3 : c4 < 0
 ·rw [fit_bad fun h => by have := h.2.2.2.1; dsimp only at this; omega]
  simp (maxSteps := 500000) -implicitDefEqProofs only [go_sem, hK.len, dcf d1, dcf d2, dct d3]
  (repeat' first | ((first | refine vy1 ?_ ?_ | refine vy2 ?_ ?_ | refine vy3 ?_ ?_) <;> rintro ⟨hd, hq⟩ <;> first | (exfalso; omega) | simp (maxSteps := 500000) -implicitDefEqProofs only [go_sem, hd] | skip) | refine vzt ?_ | refine vzf ?_ | refine vsb ?_ | refine vzb ?_ | refine vzq ?_ | simp (maxSteps := 500000) -implicitDefEqProofs only [go_sem])
  exact ⟨_, rfl, rfl⟩
 obtain ⟨i, rfl⟩ : ∃ i : Nat, c1 = (i : Int) + 1 := ⟨(c1 - 1).toNat, by omega⟩
 obtain ⟨q, x, y, hq, hx, hy, q1, q2, x1, x2, y1, y2, xy⟩ := checkP_at hc (i := i) (by omega)
 have k10 := fine_len hc.1
 have hq' : (k.map iA)[i]? = some (iA q) := by simp [hq]
 have hw : IntKind.i64.wrap ((i : Int) + 1 - 1) = (i : Int) := by rw [wrap64 (by omega) (by omega)]; omega
 by_cases d4 : q < c4
 ·rw [fit_bad fun h => by have := h.2.2.2.2 q (by dsimp only; rw [show ((i : Int) + 1 - 1).toNat = i by omega]; exact hq); dsimp only at this; omega]
  simp (maxSteps := 500000) -implicitDefEqProofs only [go_sem, hK.len, dcf d1, dcf d2, dcf d3, dct d4, hK.idx hq', iA, hw]
  (repeat' first | ((first | refine vy1 ?_ ?_ | refine vy2 ?_ ?_ | refine vy3 ?_ ?_) <;> rintro ⟨hd, hq⟩ <;> first | (exfalso; omega) | simp (maxSteps := 500000) -implicitDefEqProofs only [go_sem, hd] | skip) | refine vzt ?_ | refine vzf ?_ | refine vsb ?_ | refine vzb ?_ | refine vzq ?_ | simp (maxSteps := 500000) -implicitDefEqProofs only [go_sem])
  exact ⟨_, rfl, rfl⟩
 rw [fit_good (c := ((i : Int) + 1, c2, c3, c4)) hc rfl hq hx hy (by dsimp only; omega) (by dsimp only; omega)]
 simp (maxSteps := 500000) -implicitDefEqProofs only [go_sem, hK.len, dcf d1, dcf d2, dcf d3, dcf d4, hK.idx hq', iA, hw]
 (repeat' first | ((first | refine vy1 ?_ ?_ | refine vy2 ?_ ?_ | refine vy3 ?_ ?_) <;> rintro ⟨hd, hq⟩ <;> first | (exfalso; omega) | simp (maxSteps := 500000) -implicitDefEqProofs only [go_sem, hd] | skip) | refine vzt ?_ | refine vzf ?_ | refine vsb ?_ | refine vzb ?_ | refine vzq ?_ | simp (maxSteps := 500000) -implicitDefEqProofs only [go_sem])
 refine (fitsC (c := ((i : Int) + 1, c2, c3, c4)) hK hW hR rfl (by omega) hx hy).use ?_
 (repeat' first | ((first | refine vy1 ?_ ?_ | refine vy2 ?_ ?_ | refine vy3 ?_ ?_) <;> rintro ⟨hd, hq⟩ <;> first | (exfalso; omega) | simp (maxSteps := 500000) -implicitDefEqProofs only [go_sem, hd] | skip) | refine vzt ?_ | refine vzf ?_ | refine vsb ?_ | refine vzb ?_ | refine vzq ?_ | simp (maxSteps := 500000) -implicitDefEqProofs only [go_sem])
 exact ⟨_, rfl, rfl⟩
end Abs
