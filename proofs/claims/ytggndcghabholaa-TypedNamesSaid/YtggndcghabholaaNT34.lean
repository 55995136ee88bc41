/-
  Functions of the program walked: each is shown to compute a plain function (T34).
-/
import Derived.Test.YtggndcghabholaaNT28
import Derived.Test.YtggndcghabholaaNT13
noncomputable section
namespace Abs
set_option linter.unusedSimpArgs false
set_option linter.unusedVariables false
set_option maxRecDepth 100000
set_option maxHeartbeats 2000000
open Go Go.Proofs
mutual
/-- Scalars, records and data. -/
inductive Dat : AVal → Prop
 | sc (v : Value) : Dat (.sc v)
 | agg (cs : List AVal) (h : Dats cs) : Dat (.agg cs)
 | data (sz : Nat) (t : Bool) (els : List AVal) (h : Dats els) : Dat (.data sz t els)
inductive Dats : List AVal → Prop
 | nil : Dats []
 | cons (v : AVal) (vs : List AVal) (h : Dat v) (hs : Dats vs) : Dats (v :: vs)
end
theorem IsD.rest {sz : Nat} {x : AVal} {els : List AVal} (h : IsD sz x els) (hk : 0 < els.length) : ∃ y, (∀ σ : AStore, aSlice sz x (some (AVal.sc (Value.int IntKind.i64 (1)))) none σ = some y) ∧ IsD sz y (els.drop 1) := by
 rcases h with ⟨rfl, a, c, rfl⟩ | ⟨t, rfl⟩
 ·cases hk
 ·refine ⟨.data sz (t && els.length == els.length) (els.drop 1), fun σ => ?_, .inr ⟨_, rfl⟩⟩
  have h1 : (1 : Int) ≤ (els.length : Int) := by omega
  have h2 : List.take (els.length - 1) els.tail = els.tail := List.take_of_length_le (by simp)
  simp [aSlice, aBounds, optInt, h1, h2]
mutual
def partsE : Ex → Int → Int
 | .mk _ nm _ zs, left => partsEs zs (left - 1 - nm.size)
def partsEs : List Ex → Int → Int
 | [], left => left
 | x :: xs, left => if 0 ≤ left then partsEs xs (partsE x left) else left
end
mutual
def allS1 : St → Int → Int
 | .mk _ nm v b e, left => allS e (allS b (partsE v (left - 1 - nm.size)))
def allS : List St → Int → Int
 | [], left => left
 | x :: xs, left => if 0 ≤ left then allS xs (allS1 x left) else left
end
mutual
theorem partsE_le : ∀ (x : Ex) (l : Int), partsE x l ≤ l
  | .mk _ nm _ zs, l => by have := partsEs_le zs (l - 1 - nm.size); simp only [partsE]; omega
theorem partsEs_le : ∀ (xs : List Ex) (l : Int), partsEs xs l ≤ l
  | [], l => Int.le_refl _
  | x :: xs, l => by
      have h1 := partsE_le x l
      have h2 := partsEs_le xs (partsE x l)
      simp only [partsEs]; split <;> omega
end
mutual
theorem allS1_le : ∀ (x : St) (l : Int), allS1 x l ≤ l
  | .mk _ nm v b e, l => by
      have h1 := partsE_le v (l - 1 - nm.size)
      have h2 := allS_le b (partsE v (l - 1 - nm.size))
      have h3 := allS_le e (allS b (partsE v (l - 1 - nm.size)))
      simp only [allS1]; omega
theorem allS_le : ∀ (xs : List St) (l : Int), allS xs l ≤ l
  | [], l => Int.le_refl _
  | x :: xs, l => by
      have h1 := allS1_le x l
      have h2 := allS_le xs (allS1 x l)
      simp only [allS]; split <;> omega
end
mutual
theorem partsE_nodes : ∀ (x : Ex) (l : Int), 0 ≤ partsE x l → partsE x l + nodesE x ≤ l
  | .mk _ nm _ zs, l, h => by
      simp only [partsE] at h ⊢
      have := partsEs_nodes zs (l - 1 - nm.size) h
      simp only [nodesE]; omega
theorem partsEs_nodes : ∀ (xs : List Ex) (l : Int), 0 ≤ partsEs xs l → partsEs xs l + nodesEs xs ≤ l
  | [], l, h => by simp [partsEs, nodesEs]
  | x :: xs, l, h => by
      simp only [partsEs] at h ⊢
      split at h
      · rename_i hl
        rw [if_pos hl]
        have h1 := partsEs_nodes xs (partsE x l) h
        have h2 := partsEs_le xs (partsE x l)
        have h3 := partsE_nodes x l (by omega)
        simp only [nodesEs]; omega
      · omega
end
mutual
theorem allS1_nodes : ∀ (x : St) (l : Int), 0 ≤ allS1 x l → allS1 x l + nodesS x ≤ l
  | .mk _ nm v b e, l, h => by
      simp only [allS1] at h ⊢
      have h1 := allS_nodes e _ h
      have h2 := allS_le e (allS b (partsE v (l - 1 - nm.size)))
      have h3 := allS_nodes b _ (by omega : 0 ≤ allS b (partsE v (l - 1 - nm.size)))
      have h4 := allS_le b (partsE v (l - 1 - nm.size))
      have h5 := partsE_nodes v (l - 1 - nm.size) (by omega)
      simp only [nodesS]; omega
theorem allS_nodes : ∀ (xs : List St) (l : Int), 0 ≤ allS xs l → allS xs l + nodesSs xs ≤ l
  | [], l, h => by simp [allS, nodesSs]
  | x :: xs, l, h => by
      simp only [allS] at h ⊢
      split at h
      · rename_i hl
        rw [if_pos hl]
        have h1 := allS_nodes xs (allS1 x l) h
        have h2 := allS_le xs (allS1 x l)
        have h3 := allS1_nodes x l (by omega)
        simp only [nodesSs]; omega
      · omega
end
theorem partsEs_neg {xs : List Ex} {l : Int} (h : ¬ 0 ≤ l) : partsEs xs l = l := by
 cases xs with
 | nil => rfl
 | cons x xs => simp only [partsEs, if_neg h]
theorem allS_neg {xs : List St} {l : Int} (h : ¬ 0 ≤ l) : allS xs l = l := by
 cases xs with
 | nil => rfl
 | cons x xs => simp only [allS, if_neg h]
theorem partsEs_take {xs : List Ex} {j : Nat} {x : Ex} {l r : Int} (h : xs[j]? = some x) (h0 : partsEs xs l = partsEs (xs.drop j) r) (hr : 0 ≤ r) : partsEs xs l = partsEs (xs.drop (j + 1)) (partsE x r) := by
 obtain ⟨hj, he⟩ := List.getElem?_eq_some_iff.1 h
 rw [h0, List.drop_eq_getElem_cons hj, he, partsEs, if_pos hr]
theorem allS_take {xs : List St} {j : Nat} {x : St} {l r : Int} (h : xs[j]? = some x) (h0 : allS xs l = allS (xs.drop j) r) (hr : 0 ≤ r) : allS xs l = allS (xs.drop (j + 1)) (allS1 x r) := by
 obtain ⟨hj, he⟩ := List.getElem?_eq_some_iff.1 h
 rw [h0, List.drop_eq_getElem_cons hj, he, allS, if_pos hr]
set_option maxHeartbeats 8000000 in
theorem partsStep {k i : Int} {nm : ByteArray} {xs : List Ex} {w : WD} {v : AVal} {left : Int} (h : IsEx (.mk k nm i xs) v) (h1 : -4611686018427387904 ≤ left) (h2 : left ≤ 1099511627776)
  (rec : ∀ y ∈ xs, ∀ (w : WD) (v : AVal) (left : Int), IsEx y v → -4611686018427387904 ≤ left → left ≤ 1099511627776 → GivesV (EE w) 40 [v, (AVal.sc (Value.int IntKind.i64 (left)))] (AVal.sc (Value.int IntKind.i64 (partsE y left)))) :
  GivesV (EE w) 40 [v, (AVal.sc (Value.int IntKind.i64 (left)))] (AVal.sc (Value.int IntKind.i64 (partsE (.mk k nm i xs) left))) := by
 have hwf := h.wf
 simp only [IsEx] at h
 obtain ⟨S, els, rfl, hS, hx, hk, hi, hn, hl⟩ := h
 have hlen := hx.len
 have hSn := fun σ : AStore => hS.lenN hlen (σ := σ)
 have kS := hS.fit
 have cS := hS.cells
 have iS := hS.isCell
 refine GivesV.of (fun _ => .sc _) (.cons _ _ hwf (.cons _ _ (.sc _) .nil)) 1 ?_
 refine of_40 rfl rfl rfl (by kernel_rfl) ?_
 simp -implicitDefEqProofs only [go_sem, kS, cS, iS]
 have g0 : (empty.alloc (.cells 4 [.agg [(AVal.sc (Value.int IntKind.i64 (k))), .sc (.string nm), (AVal.sc (Value.int IntKind.i64 (i))), S]])).get 0 = some (.cells 4 [.agg [(AVal.sc (Value.int IntKind.i64 (k))), .sc (.string nm), (AVal.sc (Value.int IntKind.i64 (i))), S]]) := by rw [AStore.get_alloc]; rfl
 generalize empty.alloc (.cells 4 [.agg [(AVal.sc (Value.int IntKind.i64 (k))), .sc (.string nm), (AVal.sc (Value.int IntKind.i64 (i))), S]]) = τ at g0 ⊢
 have w1 : IntKind.i64.wrap (left - 1) = left - 1 := wrap64 (by omega) (by omega)
 have w2 : IntKind.i64.wrap (left - 1 - (nm.size : Int)) = left - 1 - (nm.size : Int) := wrap64 (by omega) (by omega)
 (repeat' first | ((first | refine vy1 ?_ ?_ | refine vy2 ?_ ?_ | refine vy3 ?_ ?_) <;> rintro ⟨hd, hq⟩ <;> first | (exfalso; omega) | simp -implicitDefEqProofs only [go_sem, hd] | skip) | refine vzt ?_ | refine vzf ?_ | refine vsb ?_ | refine vzb ?_ | refine vzq ?_ | simp -implicitDefEqProofs only [go_sem, g0, w1, w2])
 refine vlp (ι := Int × Nat) (fun p => [(1, (AVal.sc (Value.int IntKind.i64 (p.1)))), (2, .ptr 0 0 0), (5, (AVal.sc (Value.int IntKind.i64 (p.2))))]) (fun p τ => p.2 ≤ xs.length ∧ τ.get 0 = some (.cells 4 [.agg [(AVal.sc (Value.int IntKind.i64 (k))), .sc (.string nm), (AVal.sc (Value.int IntKind.i64 (i))), S]]) ∧ p.1 ≤ left ∧ partsEs xs (left - 1 - (nm.size : Int)) = partsEs (xs.drop p.2) p.1) (fun p => xs.length - p.2) (fun _ => rfl) (left - 1 - (nm.size : Int), 0) ?_ ?_ ?_
 ·(repeat' (first | exact trivial | refine ⟨rfl, ?_⟩))
 ·exact ⟨Nat.zero_le _, g0, by omega, rfl⟩
 clear g0 w1 w2
 rintro ⟨r, j⟩ τ ⟨hj, g0, hr, h0⟩
 simp only at hj hr h0
 by_cases hc : j < xs.length ∧ 0 ≤ r
 ·have hlt : (j : Int) < (xs.length : Int) := by omega
  have hr0 : (0 : Int) ≤ r := hc.2
  obtain ⟨x, hx1⟩ : ∃ x, xs[j]? = some x := ⟨xs[j]'(by omega), by simp⟩
  obtain ⟨e, he, hxe⟩ := hx.at hx1
  obtain ⟨d1, d2, d3⟩ := hxe.isA.facts
  have dc := hxe.cellsOk
  have hw := wrapS (i := j) (by omega)
  simp -implicitDefEqProofs only [go_sem, g0, hSn, kS, cS, iS, dct hlt, dct hr0]
  (repeat' first | ((first | refine vy1 ?_ ?_ | refine vy2 ?_ ?_ | refine vy3 ?_ ?_) <;> rintro ⟨hd, hq⟩ <;> first | (exfalso; omega) | simp -implicitDefEqProofs only [go_sem, hd] | skip) | refine vzt ?_ | refine vzf ?_ | refine vsb ?_ | refine vzb ?_ | refine vzq ?_ | simp -implicitDefEqProofs only [go_sem, g0, hSn, kS, cS, iS, dct hlt, dct hr0, hS.idx he, d1, d2, d3, dc])
  refine (rec x (List.mem_of_getElem? hx1) _ e r hxe (by omega) (by omega)).use ?_
  have hle := partsE_le x r
  (repeat' first | ((first | refine vy1 ?_ ?_ | refine vy2 ?_ ?_ | refine vy3 ?_ ?_) <;> rintro ⟨hd, hq⟩ <;> first | (exfalso; omega) | simp -implicitDefEqProofs only [go_sem, hd] | skip) | refine vzt ?_ | refine vzf ?_ | refine vsb ?_ | refine vzb ?_ | refine vzq ?_ | simp -implicitDefEqProofs only [go_sem, hw])
  exact ⟨(partsE x r, j + 1), by dsimp only; omega, ⟨by dsimp only; omega, g0, by dsimp only; omega, partsEs_take hx1 h0 hr0⟩, by (repeat' (first | exact trivial | refine ⟨rfl, ?_⟩))⟩
 ·have hres : partsE (.mk k nm i xs) left = r := by
   simp only [partsE]
   rw [h0]
   by_cases hr0 : 0 ≤ r
   ·obtain rfl : j = xs.length := by omega
    rw [List.drop_length]; rfl
   ·exact partsEs_neg hr0
  rw [hres]
  simp -implicitDefEqProofs only [go_sem, g0, hSn]
  (repeat' first | ((first | refine vy1 ?_ ?_ | refine vy2 ?_ ?_ | refine vy3 ?_ ?_) <;> rintro ⟨hd, hq⟩ <;> first | (exfalso; omega) | simp -implicitDefEqProofs only [go_sem, hd] | skip) | refine vzt ?_ | refine vzf ?_ | refine vsb ?_ | refine vzb ?_ | refine vzq ?_ | simp -implicitDefEqProofs only [go_sem, g0, hSn])
  all_goals exact ⟨_, rfl, rfl⟩
theorem partsC : ∀ {x : Ex} {w : WD} {v : AVal} {left : Int}, IsEx x v → -4611686018427387904 ≤ left → left ≤ 1099511627776 → GivesV (EE w) 40 [v, (AVal.sc (Value.int IntKind.i64 (left)))] (AVal.sc (Value.int IntKind.i64 (partsE x left)))
 | .mk _ _ _ xs, _, _, _, h, h1, h2 => partsStep h h1 h2 fun x hx _ _ _ h h1 h2 => partsC (x := x) h h1 h2
termination_by x => sizeOf x
decreasing_by have := List.sizeOf_lt_of_mem hx; simp only [Ex.mk.sizeOf_spec]; omega
theorem eff_sl25 {w : WD} {x : Operand} {a b c : Option Operand} : isEff (EE w) (.slice 25 x a b c) = false := by kernel_rfl
attribute [go_sem] eff_sl25
end Abs
end
