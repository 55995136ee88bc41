/-
  Functions of the program walked: each is shown to compute a plain function (T34).
-/
import Derived.Test.YtggndcghabholaaOT28
import Derived.Test.YtggndcghabholaaOT13
noncomputable section
namespace Abs
set_option linter.unusedSimpArgs false
set_option linter.unusedVariables false
set_option maxRecDepth 100000
set_option maxHeartbeats 2000000
open Go Go.Proofs
mutual
/-- Scalars, records and data. -/
inductive Dat : AVal → Prop
 | sc (v : Value) : Dat (.sc v)
 | agg (cs : List AVal) (h : Dats cs) : Dat (.agg cs)
 | data (sz : Nat) (t : Bool) (els : List AVal) (h : Dats els) : Dat (.data sz t els)
inductive Dats : List AVal → Prop
 | nil : Dats []
 | cons (v : AVal) (vs : List AVal) (h : Dat v) (hs : Dats vs) : Dats (v :: vs)
end
mutual
theorem Dat.frz {σ : AStore} : ∀ {v : AVal}, Dat v → ∃ N, ∀ M, N ≤ M → Abs.frz σ M v = some v
  | _, .sc v => ⟨1, fun M h => by obtain ⟨M, rfl⟩ : ∃ k, M = k + 1 := ⟨M - 1, by omega⟩; rfl⟩
  | _, .agg cs h => by
      obtain ⟨N, hN⟩ := Dats.frz (σ := σ) h
      refine ⟨N + 1, fun M hM => ?_⟩
      obtain ⟨M, rfl⟩ : ∃ k, M = k + 1 := ⟨M - 1, by omega⟩
      rw [frz_agg, hN M (by omega)]; rfl
  | _, .data sz t els h => by
      obtain ⟨N, hN⟩ := Dats.frz (σ := σ) h
      refine ⟨N + 1, fun M hM => ?_⟩
      obtain ⟨M, rfl⟩ : ∃ k, M = k + 1 := ⟨M - 1, by omega⟩
      rw [frz_data, hN M (by omega)]; rfl
theorem Dats.frz {σ : AStore} : ∀ {vs : List AVal}, Dats vs → ∃ N, ∀ M, N ≤ M → mapO (Abs.frz σ M) vs = some vs
  | _, .nil => ⟨0, fun _ _ => rfl⟩
  | _, .cons v vs h hs => by
      obtain ⟨N1, h1⟩ := Dat.frz (σ := σ) h
      obtain ⟨N2, h2⟩ := Dats.frz (σ := σ) hs
      refine ⟨N1 + N2, fun M hM => ?_⟩
      rw [mapO_cons', h1 M (by omega), h2 M (by omega)]; rfl
end
theorem IsD.dat {sz : Nat} {x : AVal} {els : List AVal} (h : IsD sz x els) (hw : Dats els) : Dat x := by
 rcases h with ⟨rfl, a, c, rfl⟩ | ⟨t, rfl⟩
 ·exact .sc _
 ·exact .data _ _ _ hw
mutual
theorem IsEx.dat : ∀ {x : Ex} {v : AVal}, IsEx x v → Dat v
  | .mk k nm i zs, v, h => by
      simp only [IsEx] at h
      obtain ⟨S, els, rfl, hS, hs, _⟩ := h
      exact .agg _ (.cons _ _ (.sc _) (.cons _ _ (.sc _) (.cons _ _ (.sc _) (.cons _ _ (hS.dat (IsExs.dat hs)) .nil))))
theorem IsExs.dat : ∀ {zs : List Ex} {els : List AVal}, IsExs zs els → Dats els
  | [], els, h => by simp only [IsExs] at h; subst h; exact .nil
  | x :: xs, els, h => by
      simp only [IsExs] at h
      obtain ⟨e, es, rfl, h1, h⟩ := h
      exact .cons _ _ (IsEx.dat h1) (IsExs.dat h)
end
mutual
theorem IsSt.dat : ∀ {x : St} {v : AVal}, IsSt x v → Dat v
  | .mk k nm w body els, v, h => by
      simp only [IsSt] at h
      obtain ⟨SA, SB, SE, ea, eb, ee, rfl, hA, ha, hB, hb, hE, he, _⟩ := h
      exact .agg _ (.cons _ _ (.sc _) (.cons _ _ (.sc _) (.cons _ _ (.sc _) (.cons _ _ (.sc _) (.cons _ _ (.sc _) (.cons _ _ (hA.dat (IsExs.dat ha)) (.cons _ _ (hB.dat (IsSts.dat hb)) (.cons _ _ (hE.dat (IsSts.dat he)) .nil))))))))
theorem IsSts.dat : ∀ {zs : List St} {els : List AVal}, IsSts zs els → Dats els
  | [], els, h => by simp only [IsSts] at h; subst h; exact .nil
  | x :: xs, els, h => by
      simp only [IsSts] at h
      obtain ⟨e, es, rfl, h1, h⟩ := h
      exact .cons _ _ (IsSt.dat h1) (IsSts.dat h)
end
theorem dats_sA : ∀ l : List ByteArray, Dats (l.map sA)
 | [] => .nil
 | x :: l => .cons _ _ (.sc _) (dats_sA l)
theorem IsFc.dat {f : Fc} {w : AVal} (h : IsFc f w) : Dat w := by
 obtain ⟨SP, SB, eb, rfl, hP, hB, hb, _⟩ := h
 exact .agg _ (.cons _ _ (.sc _) (.cons _ _ (hP.dat (dats_sA _)) (.cons _ _ (hB.dat (IsSts.dat hb)) .nil)))
theorem Dats.of : ∀ {l : List AVal}, (∀ x ∈ l, Dat x) → Dats l
 | [], _ => .nil
 | x :: l, h => .cons x l (h x (by simp)) (Dats.of fun y hy => h y (by simp [hy]))
theorem IsFcs.dat {l : List Fc} {els : List AVal} (h : IsFcs l els) : Dats els := Dats.of fun e he => by
 obtain ⟨j, hj, rfl⟩ := List.mem_iff_getElem.1 he
 obtain ⟨x, _, h2⟩ := h.all (List.getElem?_eq_getElem hj)
 exact h2.dat
theorem only_self {σ : AStore} {b : Nat} {x : ABlk} (h : σ.get b = some x) : (σ.only [b]).get b = some x := by
 have hlt := AStore.lt_of_get h
 unfold AStore.only AStore.get
 have h1 : Nat.blt b σ.next = true := by rw [Nat.blt_eq]; exact hlt
 simp only [h1]
 unfold onlyT
 simp only [h, onlyT]
 rw [T.get_put _ _ _ _ _ (lt_two_pow_sub _), if_pos rfl]
theorem app_lit0 {sz bytes : Nat} {t : Bool} {els : List AVal} {σ : AStore} : aAppend sz bytes (.data sz t els) [] σ = some (.data sz t els, σ) := rfl
theorem app_lit {sz bytes : Nat} {y : AVal} {ys : List AVal} {σ : AStore} (hb : (ys.length + 1) * bytes ≤ 140737488355328) (h2 : bytes ≠ 0) : aAppend sz bytes (.data sz true []) (y :: ys) σ = some (.slice σ.next 0 (ys.length + 1), σ.alloc (.cells sz (y :: ys))) := by
 have h0 : ¬ (ys.length + 1 = 0) := by omega
 have h3 : True ∧ True ∧ (0 + (ys.length + 1)) * bytes ≤ 140737488355328 ∧ bytes ≠ 0 := ⟨trivial, trivial, by rw [Nat.zero_add]; exact hb, h2⟩
 unfold aAppend aAppend0
 simp only [List.length_cons, List.length_nil, if_neg h0]
 rw [if_pos h3, Nat.zero_add]; rfl
theorem IsD.take {sz : Nat} {x : AVal} {els : List AVal} (h : IsD sz x els) {k : Nat} (hk : k < els.length) : ∃ y, (∀ σ : AStore, aSlice sz x none (some (.sc (.int .i64 (k)))) σ = some y) ∧ IsD sz y (els.take k) := by
 rcases h with ⟨rfl, a, c, rfl⟩ | ⟨t, rfl⟩
 ·cases hk
 ·refine ⟨.data sz (t && k == els.length) (els.take k), fun σ => ?_, .inr ⟨_, rfl⟩⟩
  have h1 : (k : Int) ≤ (els.length : Int) := by omega
  simp [aSlice, aBounds, optInt, h1]
mutual
def partsE : Ex → Int → Int
 | .mk _ nm _ zs, left => partsEs zs (left - 1 - nm.size)
def partsEs : List Ex → Int → Int
 | [], left => left
 | x :: xs, left => if 0 ≤ left then partsEs xs (partsE x left) else left
end
mutual
def allS1 : St → Int → Int
 | .mk _ nm v b e, left => allS e (allS b (partsE v (left - 1 - nm.size)))
def allS : List St → Int → Int
 | [], left => left
 | x :: xs, left => if 0 ≤ left then allS xs (allS1 x left) else left
end
mutual
theorem partsE_le : ∀ (x : Ex) (l : Int), partsE x l ≤ l
  | .mk _ nm _ zs, l => by have := partsEs_le zs (l - 1 - nm.size); simp only [partsE]; omega
theorem partsEs_le : ∀ (xs : List Ex) (l : Int), partsEs xs l ≤ l
  | [], l => Int.le_refl _
  | x :: xs, l => by
      have h1 := partsE_le x l
      have h2 := partsEs_le xs (partsE x l)
      simp only [partsEs]; split <;> omega
end
mutual
theorem allS1_le : ∀ (x : St) (l : Int), allS1 x l ≤ l
  | .mk _ nm v b e, l => by
      have h1 := partsE_le v (l - 1 - nm.size)
      have h2 := allS_le b (partsE v (l - 1 - nm.size))
      have h3 := allS_le e (allS b (partsE v (l - 1 - nm.size)))
      simp only [allS1]; omega
theorem allS_le : ∀ (xs : List St) (l : Int), allS xs l ≤ l
  | [], l => Int.le_refl _
  | x :: xs, l => by
      have h1 := allS1_le x l
      have h2 := allS_le xs (allS1 x l)
      simp only [allS]; split <;> omega
end
mutual
theorem partsE_nodes : ∀ (x : Ex) (l : Int), 0 ≤ partsE x l → partsE x l + nodesE x ≤ l
  | .mk _ nm _ zs, l, h => by
      simp only [partsE] at h ⊢
      have := partsEs_nodes zs (l - 1 - nm.size) h
      simp only [nodesE]; omega
theorem partsEs_nodes : ∀ (xs : List Ex) (l : Int), 0 ≤ partsEs xs l → partsEs xs l + nodesEs xs ≤ l
  | [], l, h => by simp [partsEs, nodesEs]
  | x :: xs, l, h => by
      simp only [partsEs] at h ⊢
      split at h
      · rename_i hl
        rw [if_pos hl]
        have h1 := partsEs_nodes xs (partsE x l) h
        have h2 := partsEs_le xs (partsE x l)
        have h3 := partsE_nodes x l (by omega)
        simp only [nodesEs]; omega
      · omega
end
mutual
theorem allS1_nodes : ∀ (x : St) (l : Int), 0 ≤ allS1 x l → allS1 x l + nodesS x ≤ l
  | .mk _ nm v b e, l, h => by
      simp only [allS1] at h ⊢
      have h1 := allS_nodes e _ h
      have h2 := allS_le e (allS b (partsE v (l - 1 - nm.size)))
      have h3 := allS_nodes b _ (by omega : 0 ≤ allS b (partsE v (l - 1 - nm.size)))
      have h4 := allS_le b (partsE v (l - 1 - nm.size))
      have h5 := partsE_nodes v (l - 1 - nm.size) (by omega)
      simp only [nodesS]; omega
theorem allS_nodes : ∀ (xs : List St) (l : Int), 0 ≤ allS xs l → allS xs l + nodesSs xs ≤ l
  | [], l, h => by simp [allS, nodesSs]
  | x :: xs, l, h => by
      simp only [allS] at h ⊢
      split at h
      · rename_i hl
        rw [if_pos hl]
        have h1 := allS_nodes xs (allS1 x l) h
        have h2 := allS_le xs (allS1 x l)
        have h3 := allS1_nodes x l (by omega)
        simp only [nodesSs]; omega
      · omega
end
theorem partsEs_neg {xs : List Ex} {l : Int} (h : ¬ 0 ≤ l) : partsEs xs l = l := by
 cases xs with
 | nil => rfl
 | cons x xs => simp only [partsEs, if_neg h]
theorem allS_neg {xs : List St} {l : Int} (h : ¬ 0 ≤ l) : allS xs l = l := by
 cases xs with
 | nil => rfl
 | cons x xs => simp only [allS, if_neg h]
theorem partsEs_take {xs : List Ex} {j : Nat} {x : Ex} {l r : Int} (h : xs[j]? = some x) (h0 : partsEs xs l = partsEs (xs.drop j) r) (hr : 0 ≤ r) : partsEs xs l = partsEs (xs.drop (j + 1)) (partsE x r) := by
 obtain ⟨hj, he⟩ := List.getElem?_eq_some_iff.1 h
 rw [h0, List.drop_eq_getElem_cons hj, he, partsEs, if_pos hr]
theorem allS_take {xs : List St} {j : Nat} {x : St} {l r : Int} (h : xs[j]? = some x) (h0 : allS xs l = allS (xs.drop j) r) (hr : 0 ≤ r) : allS xs l = allS (xs.drop (j + 1)) (allS1 x r) := by
 obtain ⟨hj, he⟩ := List.getElem?_eq_some_iff.1 h
 rw [h0, List.drop_eq_getElem_cons hj, he, allS, if_pos hr]
set_option maxHeartbeats 8000000 in
theorem partsStep {k i : Int} {nm : ByteArray} {xs : List Ex} {w : WD} {v : AVal} {left : Int} (h : IsEx (.mk k nm i xs) v) (h1 : -4611686018427387904 ≤ left) (h2 : left ≤ 1099511627776)
  (rec : ∀ y ∈ xs, ∀ (w : WD) (v : AVal) (left : Int), IsEx y v → -4611686018427387904 ≤ left → left ≤ 1099511627776 → GivesV (EE w) 40 [v, (.sc (.int .i64 (left)))] (.sc (.int .i64 (partsE y left)))) :
  GivesV (EE w) 40 [v, (.sc (.int .i64 (left)))] (.sc (.int .i64 (partsE (.mk k nm i xs) left))) := by
 have hwf := h.wf
 simp only [IsEx] at h
 obtain ⟨S, els, rfl, hS, hx, hk, hi, hn, hl⟩ := h
 have hlen := hx.len
 have hSn := fun σ : AStore => hS.lenN hlen (σ := σ)
 have kS := hS.fit
 have cS := hS.cells
 have iS := hS.isCell
 refine GivesV.of (fun _ => .sc _) (.cons _ _ hwf (.cons _ _ (.sc _) .nil)) 1 ?_
 refine of_40 rfl rfl rfl (by kernel_rfl) ?_
 simp -implicitDefEqProofs only [go_sem, kS, cS, iS]
 have g0 : (empty.alloc (.cells 4 [.agg [(.sc (.int .i64 (k))), .sc (.string nm), (.sc (.int .i64 (i))), S]])).get 0 = some (.cells 4 [.agg [(.sc (.int .i64 (k))), .sc (.string nm), (.sc (.int .i64 (i))), S]]) := by rw [AStore.get_alloc]; rfl
 generalize empty.alloc (.cells 4 [.agg [(.sc (.int .i64 (k))), .sc (.string nm), (.sc (.int .i64 (i))), S]]) = τ at g0 ⊢
 have w1 : IntKind.i64.wrap (left - 1) = left - 1 := wrap64 (by omega) (by omega)
 have w2 : IntKind.i64.wrap (left - 1 - (nm.size : Int)) = left - 1 - (nm.size : Int) := wrap64 (by omega) (by omega)
 (repeat' first | ((first | refine vy1 ?_ ?_ | refine vy2 ?_ ?_ | refine vy3 ?_ ?_) <;> rintro ⟨hd, hq⟩ <;> first | (exfalso; omega) | simp -implicitDefEqProofs only [go_sem, hd] | skip) | refine vzt ?_ | refine vzf ?_ | refine vsb ?_ | refine vzb ?_ | refine vzq ?_ | simp -implicitDefEqProofs only [go_sem, g0, w1, w2])
 refine vlp (ι := Int × Nat) (fun p => [(1, (.sc (.int .i64 (p.1)))), (2, .ptr 0 0 0), (5, (.sc (.int .i64 (p.2))))]) (fun p τ => p.2 ≤ xs.length ∧ τ.get 0 = some (.cells 4 [.agg [(.sc (.int .i64 (k))), .sc (.string nm), (.sc (.int .i64 (i))), S]]) ∧ p.1 ≤ left ∧ partsEs xs (left - 1 - (nm.size : Int)) = partsEs (xs.drop p.2) p.1) (fun p => xs.length - p.2) (fun _ => rfl) (left - 1 - (nm.size : Int), 0) ?_ ?_ ?_
 ·(repeat' (first | exact trivial | refine ⟨rfl, ?_⟩))
 ·exact ⟨Nat.zero_le _, g0, by omega, rfl⟩
 clear g0 w1 w2
 rintro ⟨r, j⟩ τ ⟨hj, g0, hr, h0⟩
 simp only at hj hr h0
 by_cases hc : j < xs.length ∧ 0 ≤ r
 ·have hlt : (j : Int) < (xs.length : Int) := by omega
  have hr0 : (0 : Int) ≤ r := hc.2
  obtain ⟨x, hx1⟩ : ∃ x, xs[j]? = some x := ⟨xs[j]'(by omega), by simp⟩
  obtain ⟨e, he, hxe⟩ := hx.at hx1
  obtain ⟨d1, d2, d3⟩ := hxe.isA.facts
  have dc := hxe.cellsOk
  have hw := wrapS (i := j) (by omega)
  simp -implicitDefEqProofs only [go_sem, g0, hSn, kS, cS, iS, dct hlt, dct hr0]
  (repeat' first | ((first | refine vy1 ?_ ?_ | refine vy2 ?_ ?_ | refine vy3 ?_ ?_) <;> rintro ⟨hd, hq⟩ <;> first | (exfalso; omega) | simp -implicitDefEqProofs only [go_sem, hd] | skip) | refine vzt ?_ | refine vzf ?_ | refine vsb ?_ | refine vzb ?_ | refine vzq ?_ | simp -implicitDefEqProofs only [go_sem, g0, hSn, kS, cS, iS, dct hlt, dct hr0, hS.idx he, d1, d2, d3, dc])
  refine (rec x (List.mem_of_getElem? hx1) _ e r hxe (by omega) (by omega)).use ?_
  have hle := partsE_le x r
  (repeat' first | ((first | refine vy1 ?_ ?_ | refine vy2 ?_ ?_ | refine vy3 ?_ ?_) <;> rintro ⟨hd, hq⟩ <;> first | (exfalso; omega) | simp -implicitDefEqProofs only [go_sem, hd] | skip) | refine vzt ?_ | refine vzf ?_ | refine vsb ?_ | refine vzb ?_ | refine vzq ?_ | simp -implicitDefEqProofs only [go_sem, hw])
  exact ⟨(partsE x r, j + 1), by dsimp only; omega, ⟨by dsimp only; omega, g0, by dsimp only; omega, partsEs_take hx1 h0 hr0⟩, by (repeat' (first | exact trivial | refine ⟨rfl, ?_⟩))⟩
 ·have hres : partsE (.mk k nm i xs) left = r := by
   simp only [partsE]
   rw [h0]
   by_cases hr0 : 0 ≤ r
   ·obtain rfl : j = xs.length := by omega
    rw [List.drop_length]; rfl
   ·exact partsEs_neg hr0
  rw [hres]
  simp -implicitDefEqProofs only [go_sem, g0, hSn]
  (repeat' first | ((first | refine vy1 ?_ ?_ | refine vy2 ?_ ?_ | refine vy3 ?_ ?_) <;> rintro ⟨hd, hq⟩ <;> first | (exfalso; omega) | simp -implicitDefEqProofs only [go_sem, hd] | skip) | refine vzt ?_ | refine vzf ?_ | refine vsb ?_ | refine vzb ?_ | refine vzq ?_ | simp -implicitDefEqProofs only [go_sem, g0, hSn])
  all_goals exact ⟨_, rfl, rfl⟩
theorem partsC : ∀ {x : Ex} {w : WD} {v : AVal} {left : Int}, IsEx x v → -4611686018427387904 ≤ left → left ≤ 1099511627776 → GivesV (EE w) 40 [v, (.sc (.int .i64 (left)))] (.sc (.int .i64 (partsE x left)))
 | .mk _ _ _ xs, _, _, _, h, h1, h2 => partsStep h h1 h2 fun x hx _ _ _ h h1 h2 => partsC (x := x) h h1 h2
termination_by x => sizeOf x
decreasing_by have := List.sizeOf_lt_of_mem hx; simp only [Ex.mk.sizeOf_spec]; omega
theorem eff_sl26 {w : WD} {x : Operand} {a b c : Option Operand} : isEff (EE w) (.slice 26 x a b c) = false := by kernel_rfl
attribute [go_sem] eff_sl26
theorem IsFcs.take {l : List Fc} {els : List AVal} (h : IsFcs l els) (i : Nat) : IsFcs (l.take i) (els.take i) where
 len := by rw [List.length_take, List.length_take, h.len]
 at' := fun j f hj => by
  rw [List.getElem?_take] at hj ⊢
  split at hj
  ·rename_i hlt
   rw [if_pos hlt]; exact h.at' j f hj
  ·cases hj
end Abs
end
