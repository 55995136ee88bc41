/-
  Functions of the program walked: each is shown to compute a plain function (U2).
-/
import Derived.Test.YtggndcghabholaaFT34
import Derived.Test.YtggndcghabholaaFT13
import Derived.Test.YtggndcghabholaaFAbsTyW
import Derived.Test.YtggndcghabholaaFAbsEn
noncomputable section
namespace Abs
set_option linter.unusedSimpArgs false
set_option linter.unusedVariables false
set_option maxRecDepth 100000
set_option maxHeartbeats 16000000
open Go Go.Proofs
theorem allLStep {xs : List St} {w : WD} {L : AVal} {els : List AVal} {left : Int} (hL : IsD 8 L els) (hx : IsSts xs els) (hlen : els.length ≤ 281474976710656) (h2 : left ≤ 1099511627776)
  (rec : ∀ x ∈ xs, ∀ (ys : List St), (∀ k nm v b e, x = .mk k nm v b e → ys = b ∨ ys = e) → ∀ (w : WD) (L : AVal) (els : List AVal) (left : Int), IsD 8 L els → IsSts ys els → els.length ≤ 281474976710656 → left ≤ 1099511627776 →
   GivesV (EE w) 32 [L, (.sc (.int .i64 (left)))] (.sc (.int .i64 (allS ys left)))) : GivesV (EE w) 32 [L, (.sc (.int .i64 (left)))] (.sc (.int .i64 (allS xs left))) := by
 have hln := hx.len
 have hLn := fun σ : AStore => hL.lenN hln (σ := σ)
 refine GivesV.of (fun _ => .sc _) (.cons _ _ (hL.wf hx.wf) (.cons _ _ (.sc _) .nil)) 1 ?_
 refine of_32 rfl rfl rfl (by kernel_rfl) ?_
 simp -implicitDefEqProofs only [go_sem]
 refine vlp (ι := Int × Nat) (fun p => [(0, L), (1, (.sc (.int .i64 (p.1)))), (5, (.sc (.int .i64 (p.2))))]) (fun p τ => p.2 ≤ xs.length ∧ p.1 ≤ left ∧ allS xs left = allS (xs.drop p.2) p.1) (fun p => xs.length - p.2) (fun _ => rfl) (left, 0) ?_ ?_ ?_
 ·(repeat' (first | exact trivial | refine ⟨rfl, ?_⟩))
 ·exact ⟨Nat.zero_le _, Int.le_refl _, rfl⟩
 rintro ⟨r, j⟩ τ ⟨hj, hr, h0⟩
 simp only at hj hr h0
 by_cases hc : j < xs.length ∧ 0 ≤ r
 ·have hlt : (j : Int) < (xs.length : Int) := by omega
  have hr0 : (0 : Int) ≤ r := hc.2
  obtain ⟨x, hx1⟩ : ∃ x, xs[j]? = some x := ⟨xs[j]'(by omega), by simp⟩
  obtain ⟨e, he, hxe⟩ := hx.at hx1
  have hmem := List.mem_of_getElem? hx1
  have hst := allS_take hx1 h0 hr0
  obtain ⟨k, nm, v, body, els'⟩ := x
  simp only [IsSt] at hxe
  obtain ⟨SA, SB, SE, ea, eb, ee, rfl, hA', ha, hB, hb', hE, hee, h1, h2, h3, h4, h5, h6, h7, h8⟩ := hxe
  have hvx := ex_of hA' ha h2 h3 h5 h6
  have kA := hA'.fit
  have cA := hA'.cells
  have iA := hA'.isCell
  have kB := hB.fit
  have cB := hB.cells
  have iB := hB.isCell
  have kE := hE.fit
  have cE := hE.cells
  have iE := hE.isCell
  have w1 : IntKind.i64.wrap (r - 1) = r - 1 := wrap64 (by omega) (by omega)
  have w2 : IntKind.i64.wrap (r - 1 - (nm.size : Int)) = r - 1 - (nm.size : Int) := wrap64 (by omega) (by omega)
  have hw := wrapS (i := j) (by omega)
  have l1 := partsE_le v (r - 1 - nm.size)
  have l2 := allS_le body (partsE v (r - 1 - nm.size))
  have l3 := allS_le els' (allS body (partsE v (r - 1 - nm.size)))
  simp -implicitDefEqProofs only [go_sem, hLn, dct hlt, dct hr0]
  (repeat' first | ((first | refine vy1 ?_ ?_ | refine vy2 ?_ ?_ | refine vy3 ?_ ?_) <;> rintro ⟨hd, hq⟩ <;> first | (exfalso; omega) | simp -implicitDefEqProofs only [go_sem, hd] | skip) | refine vzt ?_ | refine vzf ?_ | refine vsb ?_ | refine vzb ?_ | refine vzq ?_ | simp -implicitDefEqProofs only [go_sem, hLn, dct hlt, dct hr0])
  ((try (refine Z_seq ?_; (try simp -implicitDefEqProofs only [go_sem]))); refine Z_draw (by kernel_rfl) [0, 1, 2, 3, 4, 5, 6, 7, 8, 9, 10, 11, 12, 13, 14, 15] [(15, 32767), (14, 16383), (13, 8160), (12, 3968), (11, 1920), (10, 896), (9, 384), (8, 0), (7, 0), (6, 32), (5, 0), (4, 15), (3, 7), (2, 3), (1, 0), (0, 0)] (by kernel_rfl) (by kernel_rfl) ?_)
  simp -implicitDefEqProofs only [go_sem, hL.idx he, kA, cA, iA, kB, cB, iB, kE, cE, iE, w1, w2]
  refine (partsC hvx (by omega) (by omega)).useD ?_
  simp -implicitDefEqProofs only [go_sem]
  (repeat' first | ((first | refine vy1 ?_ ?_ | refine vy2 ?_ ?_ | refine vy3 ?_ ?_) <;> rintro ⟨hd, hq⟩ <;> first | (exfalso; omega) | simp -implicitDefEqProofs only [go_sem, hd] | skip) | refine vzt ?_ | refine vzf ?_ | refine vsb ?_ | refine vzb ?_ | refine vzq ?_ | simp -implicitDefEqProofs only [go_sem, hL.idx he, kA, cA, iA, kB, cB, iB, kE, cE, iE])
  refine (rec _ hmem body (fun _ _ _ _ _ h => by cases h; exact .inl rfl) _ SB eb _ hB hb' h7 (by omega)).use ?_
  (repeat' first | ((first | refine vy1 ?_ ?_ | refine vy2 ?_ ?_ | refine vy3 ?_ ?_) <;> rintro ⟨hd, hq⟩ <;> first | (exfalso; omega) | simp -implicitDefEqProofs only [go_sem, hd] | skip) | refine vzt ?_ | refine vzf ?_ | refine vsb ?_ | refine vzb ?_ | refine vzq ?_ | simp -implicitDefEqProofs only [go_sem, hL.idx he, kA, cA, iA, kB, cB, iB, kE, cE, iE])
  refine (rec _ hmem els' (fun _ _ _ _ _ h => by cases h; exact .inr rfl) _ SE ee _ hE hee h8 (by omega)).use ?_
  (repeat' first | ((first | refine vy1 ?_ ?_ | refine vy2 ?_ ?_ | refine vy3 ?_ ?_) <;> rintro ⟨hd, hq⟩ <;> first | (exfalso; omega) | simp -implicitDefEqProofs only [go_sem, hd] | skip) | refine vzt ?_ | refine vzf ?_ | refine vsb ?_ | refine vzb ?_ | refine vzq ?_ | simp -implicitDefEqProofs only [go_sem, hw])
  exact ⟨(allS els' (allS body (partsE v (r - 1 - nm.size))), j + 1), by dsimp only; omega, ⟨by dsimp only; omega, by dsimp only; omega, by rw [hst]; rfl⟩, by (repeat' (first | exact trivial | refine ⟨rfl, ?_⟩))⟩
 ·have hres : allS xs left = r := by
   rw [h0]
   by_cases hr0 : 0 ≤ r
   ·obtain rfl : j = xs.length := by omega
    rw [List.drop_length]; rfl
   ·exact allS_neg hr0
  rw [hres]
  simp -implicitDefEqProofs only [go_sem, hLn]
  (repeat' first | ((first | refine vy1 ?_ ?_ | refine vy2 ?_ ?_ | refine vy3 ?_ ?_) <;> rintro ⟨hd, hq⟩ <;> first | (exfalso; omega) | simp -implicitDefEqProofs only [go_sem, hd] | skip) | refine vzt ?_ | refine vzf ?_ | refine vsb ?_ | refine vzb ?_ | refine vzq ?_ | simp -implicitDefEqProofs only [go_sem, hLn])
  all_goals exact ⟨_, rfl, rfl⟩
theorem allLC : ∀ {N : Nat} {xs : List St} {w : WD} {L : AVal} {els : List AVal} {left : Int}, nodesSs xs ≤ N → IsD 8 L els → IsSts xs els → els.length ≤ 281474976710656 → left ≤ 1099511627776 → GivesV (EE w) 32 [L, (.sc (.int .i64 (left)))] (.sc (.int .i64 (allS xs left)))
  | 0, xs, w, L, els, left, hN, hL, hx, hl, h2 => allLStep hL hx hl h2 fun x hx => by
      obtain ⟨j, hj⟩ := List.getElem?_of_mem hx
      have h1 := nodesS_at hj
      obtain ⟨k, nm, v, b, e⟩ := x
      have := nodesE_pos v
      simp only [nodesS] at h1
      omega
  | N + 1, xs, w, L, els, left, hN, hL, hx, hl, h2 => allLStep hL hx hl h2 fun x hx ys hy w L els left hL' hx' hl' h2' => by
      obtain ⟨j, hj⟩ := List.getElem?_of_mem hx
      have h1 := nodesS_at hj
      obtain ⟨k, nm, v, b, e⟩ := x
      have := nodesE_pos v
      simp only [nodesS] at h1
      rcases hy _ _ _ _ _ rfl with rfl | rfl
      · exact allLC (N := N) (by omega) hL' hx' hl' h2'
      · exact allLC (N := N) (by omega) hL' hx' hl' h2'
theorem greatC {x : Ex} {w : WD} {v : AVal} {most : Int} (h : IsEx x v) (h1 : 0 ≤ most) (h2 : most ≤ 1099511627776) : GivesV (EE w) 20 [v, (.sc (.int .i64 (most)))] (.sc (.bool (decide (partsE x most < 0)))) := by
 obtain ⟨c1, c2, c3⟩ := h.isA.facts
 have cc := h.cellsOk
 have hfit : v.fit = true := by obtain ⟨cs, rfl, _⟩ := h.isA; rfl
 refine GivesV.of (fun _ => .sc _) (.cons _ _ h.wf (.cons _ _ (.sc _) .nil)) 1 ?_
 refine of_20 rfl rfl rfl (by kernel_rfl) ?_
 simp -implicitDefEqProofs only [go_sem, c1, c2, c3, cc, hfit]
 have g0 : (empty.alloc (.cells 4 [v])).get 0 = some (.cells 4 [v]) := by rw [AStore.get_alloc]; rfl
 generalize empty.alloc (.cells 4 [v]) = τ at g0 ⊢
 (repeat' first | ((first | refine vy1 ?_ ?_ | refine vy2 ?_ ?_ | refine vy3 ?_ ?_) <;> rintro ⟨hd, hq⟩ <;> first | (exfalso; omega) | simp -implicitDefEqProofs only [go_sem, hd] | skip) | refine vzt ?_ | refine vzf ?_ | refine vsb ?_ | refine vzb ?_ | refine vzq ?_ | simp -implicitDefEqProofs only [go_sem, g0, c1, c2, c3, cc, hfit])
 refine (partsC h (by omega) h2).use ?_
 (repeat' first | ((first | refine vy1 ?_ ?_ | refine vy2 ?_ ?_ | refine vy3 ?_ ?_) <;> rintro ⟨hd, hq⟩ <;> first | (exfalso; omega) | simp -implicitDefEqProofs only [go_sem, hd] | skip) | refine vzt ?_ | refine vzf ?_ | refine vsb ?_ | refine vzb ?_ | refine vzq ?_ | simp -implicitDefEqProofs only [go_sem])
 exact ⟨_, rfl, rfl⟩
def sumL (l : List ByteArray) : Nat := (l.map fun s => s.size).sum
def longB (l : List ByteArray) (most : Nat) : Bool := decide (most < sumL l) || decide (most < l.length)
theorem sumL_take {l : List ByteArray} {j : Nat} {s : ByteArray} (h : l[j]? = some s) : sumL (l.take (j + 1)) = sumL (l.take j) + s.size := by
 obtain ⟨hj, he⟩ := List.getElem?_eq_some_iff.1 h
 rw [List.take_succ_eq_append_getElem hj, he]
 simp [sumL]
theorem sumL_le {l : List ByteArray} {j : Nat} : sumL (l.take j) ≤ sumL l := by
 have : sumL l = sumL (l.take j) + sumL (l.drop j) := by
  conv => lhs; rw [← List.take_append_drop j l]
  simp only [sumL, List.map_append, List.sum_append]
 omega
theorem longC {w : WD} {A : AVal} {l : List ByteArray} {most : Nat} (hA : IsD 1 A (l.map sA)) (la : l.length ≤ 281474976710656) (hs : ∀ s ∈ l, s.size ≤ 281474976710656) (hm : most ≤ 1099511627776) :
  GivesV (EE w) 21 [A, (.sc (.int .i64 (most)))] (.sc (.bool (longB l most))) := by
 have hAn : ∀ σ : AStore, aLen (.slice 0) A σ = some (.sc (.int .i64 (l.length))) := fun σ => by have := hA.len (σ := σ); rwa [List.length_map] at this
 refine GivesV.of (fun _ => .sc _) (.cons _ _ (hA.wf (wf_sA _)) (.cons _ _ (.sc _) .nil)) 1 ?_
 refine of_21 rfl rfl rfl (by kernel_rfl) ?_
 simp -implicitDefEqProofs only [go_sem]
 refine vlp (ι := Nat) (fun j => [(0, A), (1, (.sc (.int .i64 (most)))), (5, (.sc (.int .i64 (sumL (l.take j))))), (6, (.sc (.int .i64 (j))))]) (fun j _ => j ≤ l.length ∧ (sumL (l.take j) ≤ most + 281474976710656)) (fun j => l.length - j) (fun _ => rfl) 0 ?_ ?_ ?_
 ·(repeat' (first | exact trivial | refine ⟨rfl, ?_⟩))
 ·exact ⟨Nat.zero_le _, by simp [sumL]⟩
 rintro j τ ⟨hj, h0⟩
 by_cases hc : j < l.length ∧ sumL (l.take j) ≤ most
 ·have hlt : (j : Int) < (l.length : Int) := by omega
  have hle : (sumL (l.take j) : Int) ≤ (most : Int) := by omega
  obtain ⟨x, hx⟩ : ∃ x, l[j]? = some x := ⟨l[j]'(by omega), by simp⟩
  have hx' : (l.map sA)[j]? = some (.sc (.string x)) := by rw [List.getElem?_map, hx]; rfl
  have hw := wrapS (i := j) (by omega)
  have hxs := hs x (List.mem_of_getElem? hx)
  have htk := sumL_take hx
  have w1 : IntKind.i64.wrap ((sumL (l.take j) : Int) + (x.size : Int)) = (sumL (l.take (j + 1)) : Int) := by rw [wrap64 (by omega) (by omega), htk]; omega
  simp -implicitDefEqProofs only [go_sem, hAn, dct hlt, dct hle]
  (repeat' first | ((first | refine vy1 ?_ ?_ | refine vy2 ?_ ?_ | refine vy3 ?_ ?_) <;> rintro ⟨hd, hq⟩ <;> first | (exfalso; omega) | simp -implicitDefEqProofs only [go_sem, hd] | skip) | refine vzt ?_ | refine vzf ?_ | refine vsb ?_ | refine vzb ?_ | refine vzq ?_ | simp -implicitDefEqProofs only [go_sem, hAn, dct hlt, dct hle, hA.idx hx', w1, hw])
  exact ⟨j + 1, by dsimp only; omega, ⟨by omega, by omega⟩, by (repeat' (first | exact trivial | refine ⟨rfl, ?_⟩))⟩
 ·have hsl := sumL_le (l := l) (j := j)
  have hres : longB l most = (decide ((most : Int) < (sumL (l.take j) : Int)) || decide ((most : Int) < (l.length : Int))) := by
   unfold longB
   by_cases hj2 : j < l.length
   ·have h3 : most < sumL (l.take j) := by omega
    rw [dct (show most < sumL l by omega), dct (show (most : Int) < (sumL (l.take j) : Int) by omega)]; rfl
   ·obtain rfl : j = l.length := by omega
    rw [List.take_length]
    congr 1
    ·exact decide_eq_decide.2 (by omega)
    ·exact decide_eq_decide.2 (by omega)
  rw [hres]
  by_cases hj2 : (j : Int) < (l.length : Int)
  ·have h3 : ¬ (sumL (l.take j) : Int) ≤ (most : Int) := by omega
   have h4 : (most : Int) < (sumL (l.take j) : Int) := by omega
   simp -implicitDefEqProofs only [go_sem, hAn, dct hj2, dcf h3, dct h4]
   (repeat' first | ((first | refine vy1 ?_ ?_ | refine vy2 ?_ ?_ | refine vy3 ?_ ?_) <;> rintro ⟨hd, hq⟩ <;> first | (exfalso; omega) | simp -implicitDefEqProofs only [go_sem, hd] | skip) | refine vzt ?_ | refine vzf ?_ | refine vsb ?_ | refine vzb ?_ | refine vzq ?_ | simp -implicitDefEqProofs only [go_sem, hAn, dct hj2, dcf h3, dct h4])
   exact ⟨_, rfl, rfl⟩
  ·by_cases h4 : (most : Int) < (sumL (l.take j) : Int)
   ·simp -implicitDefEqProofs only [go_sem, hAn, dcf hj2, dct h4]
    (repeat' first | ((first | refine vy1 ?_ ?_ | refine vy2 ?_ ?_ | refine vy3 ?_ ?_) <;> rintro ⟨hd, hq⟩ <;> first | (exfalso; omega) | simp -implicitDefEqProofs only [go_sem, hd] | skip) | refine vzt ?_ | refine vzf ?_ | refine vsb ?_ | refine vzb ?_ | refine vzq ?_ | simp -implicitDefEqProofs only [go_sem, hAn, dcf hj2, dct h4])
    exact ⟨_, rfl, rfl⟩
   ·simp -implicitDefEqProofs only [go_sem, hAn, dcf hj2, dcf h4]
    (repeat' first | ((first | refine vy1 ?_ ?_ | refine vy2 ?_ ?_ | refine vy3 ?_ ?_) <;> rintro ⟨hd, hq⟩ <;> first | (exfalso; omega) | simp -implicitDefEqProofs only [go_sem, hd] | skip) | refine vzt ?_ | refine vzf ?_ | refine vsb ?_ | refine vzb ?_ | refine vzq ?_ | simp -implicitDefEqProofs only [go_sem, hAn, dcf hj2, dcf h4])
    exact ⟨_, rfl, rfl⟩
def greatF (most : Nat) : List Fc → Int → Bool
 | [], left => decide (left < 0)
 | f :: fs, left => if 0 ≤ left then (longB f.ps most || greatF most fs (allS f.body (left - 1 - f.nm.size))) else true
theorem greatF_neg {most : Nat} {fs : List Fc} {l : Int} (h : ¬ 0 ≤ l) : greatF most fs l = true := by
 cases fs with
 | nil => exact dct (by omega)
 | cons x xs => simp only [greatF, if_neg h]
theorem greatF_nodes {most : Nat} : ∀ {fs : List Fc} {l : Int}, greatF most fs l = false → 0 ≤ l ∧ nodesF fs + fs.length ≤ l ∧ ∀ f ∈ fs, f.ps.length ≤ most ∧ sumL f.ps ≤ most
  | [], l, h => by
      simp only [greatF, decide_eq_false_iff_not] at h
      exact ⟨by omega, by simp [nodesF]; omega, by simp⟩
  | f :: fs, l, h => by
      simp only [greatF] at h
      split at h
      · rename_i hl
        simp only [Bool.or_eq_false_iff] at h
        obtain ⟨h1, h2⟩ := h
        obtain ⟨a, b, c⟩ := greatF_nodes h2
        have d := allS_nodes f.body _ a
        have e : nodesF (f :: fs) = nodesSs f.body + nodesF fs := by simp [nodesF]
        refine ⟨hl, by rw [e, List.length_cons]; omega, ?_⟩
        intro x hx
        rcases List.mem_cons.1 hx with rfl | hx
        · simp only [longB, Bool.or_eq_false_iff, decide_eq_false_iff_not] at h1
          omega
        · exact c x hx
      · cases h
theorem greatF_take {most : Nat} {fs : List Fc} {j : Nat} {f : Fc} {l r : Int} (h : fs[j]? = some f) (h0 : greatF most fs l = greatF most (fs.drop j) r) (hr : 0 ≤ r) : greatF most fs l = (longB f.ps most || greatF most (fs.drop (j + 1)) (allS f.body (r - 1 - f.nm.size))) := by
 obtain ⟨hj, he⟩ := List.getElem?_eq_some_iff.1 h
 rw [h0, List.drop_eq_getElem_cons hj, he, greatF, if_pos hr]
theorem greatFC {fs : List Fc} {w : WD} {L : AVal} {els : List AVal} {most : Nat} (hL : IsD 3 L els) (hl : IsFcs fs els) (hlen : els.length ≤ 281474976710656) (hm : most ≤ 1099511627776) :
  GivesV (EE w) 15 [L, (.sc (.int .i64 (most)))] (.sc (.bool (greatF most fs most))) := by
 have hll := hl.len
 have hLn := fun σ : AStore => hL.lenN hll (σ := σ)
 refine GivesV.of (fun _ => .sc _) (.cons _ _ (hL.wf hl.wf) (.cons _ _ (.sc _) .nil)) 1 ?_
 refine of_15 rfl rfl rfl (by kernel_rfl) ?_
 simp -implicitDefEqProofs only [go_sem]
 refine vlp (ι := Int × Nat) (fun p => [(0, L), (1, (.sc (.int .i64 (most)))), (5, (.sc (.int .i64 (p.1)))), (6, (.sc (.int .i64 (p.2))))]) (fun p τ => p.2 ≤ fs.length ∧ p.1 ≤ most ∧ greatF most fs most = greatF most (fs.drop p.2) p.1) (fun p => fs.length - p.2) (fun _ => rfl) ((most : Int), 0) ?_ ?_ ?_
 ·(repeat' (first | exact trivial | refine ⟨rfl, ?_⟩))
 ·exact ⟨Nat.zero_le _, Int.le_refl _, rfl⟩
 rintro ⟨r, j⟩ τ ⟨hj, hr, h0⟩
 simp only at hj hr h0
 by_cases hc : j < fs.length ∧ 0 ≤ r
 ·have hlt : (j : Int) < (fs.length : Int) := by omega
  have hr0 : (0 : Int) ≤ r := hc.2
  obtain ⟨f, hf⟩ : ∃ f, fs[j]? = some f := ⟨fs[j]'(by omega), by simp⟩
  obtain ⟨e, he, hfe⟩ := hl.at' j f hf
  obtain ⟨SP, SB, eb, rfl, hP, hB, hb', h1, h2, h3, h4⟩ := hfe
  have hst := greatF_take hf h0 hr0
  have kP := hP.fit
  have cP := hP.cells
  have iP := hP.isCell
  have kB := hB.fit
  have cB := hB.cells
  have iB := hB.isCell
  have w1 : IntKind.i64.wrap (r - 1) = r - 1 := wrap64 (by omega) (by omega)
  have w2 : IntKind.i64.wrap (r - 1 - (f.nm.size : Int)) = r - 1 - (f.nm.size : Int) := wrap64 (by omega) (by omega)
  have hw := wrapS (i := j) (by omega)
  have l1 := allS_le f.body (r - 1 - f.nm.size)
  simp -implicitDefEqProofs only [go_sem, hLn, dct hlt, dct hr0]
  (repeat' first | ((first | refine vy1 ?_ ?_ | refine vy2 ?_ ?_ | refine vy3 ?_ ?_) <;> rintro ⟨hd, hq⟩ <;> first | (exfalso; omega) | simp -implicitDefEqProofs only [go_sem, hd] | skip) | refine vzt ?_ | refine vzf ?_ | refine vsb ?_ | refine vzb ?_ | refine vzq ?_ | simp -implicitDefEqProofs only [go_sem, hLn, dct hlt, dct hr0, hL.idx he, kP, cP, iP, kB, cB, iB])
  refine (longC hP h3 h2 hm).use ?_
  cases hlo : longB f.ps most with
  | true =>
   rw [hlo] at hst
   rw [hst]
   (repeat' first | ((first | refine vy1 ?_ ?_ | refine vy2 ?_ ?_ | refine vy3 ?_ ?_) <;> rintro ⟨hd, hq⟩ <;> first | (exfalso; omega) | simp -implicitDefEqProofs only [go_sem, hd] | skip) | refine vzt ?_ | refine vzf ?_ | refine vsb ?_ | refine vzb ?_ | refine vzq ?_ | simp -implicitDefEqProofs only [go_sem, hlo])
   exact ⟨_, rfl, rfl⟩
  | false =>
   rw [hlo] at hst
   (repeat' first | ((first | refine vy1 ?_ ?_ | refine vy2 ?_ ?_ | refine vy3 ?_ ?_) <;> rintro ⟨hd, hq⟩ <;> first | (exfalso; omega) | simp -implicitDefEqProofs only [go_sem, hd] | skip) | refine vzt ?_ | refine vzf ?_ | refine vsb ?_ | refine vzb ?_ | refine vzq ?_ | simp -implicitDefEqProofs only [go_sem, hlo])
   ((try (refine Z_seq ?_; (try simp -implicitDefEqProofs only [go_sem]))); refine Z_draw (by kernel_rfl) [0, 1, 2, 3, 4, 5, 6, 7, 8, 9, 10, 11, 12, 13, 14, 15] [(15, 32767), (14, 16383), (13, 8160), (12, 3968), (11, 1920), (10, 896), (9, 384), (8, 0), (7, 0), (6, 32), (5, 0), (4, 15), (3, 7), (2, 3), (1, 0), (0, 0)] (by kernel_rfl) (by kernel_rfl) ?_)
   simp -implicitDefEqProofs only [go_sem, hL.idx he, kP, cP, iP, kB, cB, iB, w1, w2]
   refine (allLC (Nat.le_refl _) hB hb' h4 (by omega)).useD ?_
   simp -implicitDefEqProofs only [go_sem]
   (repeat' first | ((first | refine vy1 ?_ ?_ | refine vy2 ?_ ?_ | refine vy3 ?_ ?_) <;> rintro ⟨hd, hq⟩ <;> first | (exfalso; omega) | simp -implicitDefEqProofs only [go_sem, hd] | skip) | refine vzt ?_ | refine vzf ?_ | refine vsb ?_ | refine vzb ?_ | refine vzq ?_ | simp -implicitDefEqProofs only [go_sem, hw])
   exact ⟨(allS f.body (r - 1 - f.nm.size), j + 1), by dsimp only; omega, ⟨by dsimp only; omega, by dsimp only; omega, by rw [hst]; rfl⟩, by (repeat' (first | exact trivial | refine ⟨rfl, ?_⟩))⟩
 ·have hres : greatF most fs most = decide (r < 0) := by
   rw [h0]
   by_cases hr0 : 0 ≤ r
   ·obtain rfl : j = fs.length := by omega
    rw [List.drop_length]; rfl
   ·rw [greatF_neg hr0]; exact (dct (by omega)).symm
  rw [hres]
  simp -implicitDefEqProofs only [go_sem, hLn]
  (repeat' first | ((first | refine vy1 ?_ ?_ | refine vy2 ?_ ?_ | refine vy3 ?_ ?_) <;> rintro ⟨hd, hq⟩ <;> first | (exfalso; omega) | simp -implicitDefEqProofs only [go_sem, hd] | skip) | refine vzt ?_ | refine vzf ?_ | refine vsb ?_ | refine vzb ?_ | refine vzq ?_ | simp -implicitDefEqProofs only [go_sem, hLn])
  all_goals exact ⟨_, rfl, rfl⟩
def beyondB (x : Ex) (g : List ByteArray) (l : List Fc) : Bool := decide (partsE x 5000 < 0) || (longB g 200 || greatF 5000 l 5000)
theorem beyondC {fs : List Fc} {x : Ex} {g : List ByteArray} {w : WD} {X S L : AVal} {els : List AVal} (hX : IsEx x X) (hS : IsD 1 S (g.map sA)) (lg : g.length ≤ 281474976710656) (hs : ∀ s ∈ g, s.size ≤ 281474976710656)
  (hL : IsD 3 L els) (hl : IsFcs fs els) (hlen : els.length ≤ 281474976710656) : GivesV (EE w) 7 [X, S, L] (.sc (.bool (beyondB x g fs))) := by
 obtain ⟨c1, c2, c3⟩ := hX.isA.facts
 have cc := hX.cellsOk
 have hfit : X.fit = true := by obtain ⟨cs, rfl, _⟩ := hX.isA; rfl
 refine GivesV.of (fun _ => .sc _) (.cons _ _ hX.wf (.cons _ _ (hS.wf (wf_sA _)) (.cons _ _ (hL.wf hl.wf) .nil))) 2 ?_
 refine of_7 rfl rfl rfl (by kernel_rfl) ?_
 simp -implicitDefEqProofs only [go_sem, c1, c2, c3, cc, hfit]
 have g0 : (empty.alloc (.cells 4 [X])).get 0 = some (.cells 4 [X]) := by rw [AStore.get_alloc]; rfl
 generalize empty.alloc (.cells 4 [X]) = τ at g0 ⊢
 (repeat' first | ((first | refine vy1 ?_ ?_ | refine vy2 ?_ ?_ | refine vy3 ?_ ?_) <;> rintro ⟨hd, hq⟩ <;> first | (exfalso; omega) | simp -implicitDefEqProofs only [go_sem, hd] | skip) | refine vzt ?_ | refine vzf ?_ | refine vsb ?_ | refine vzb ?_ | refine vzq ?_ | simp -implicitDefEqProofs only [go_sem, g0, c1, c2, c3, cc, hfit])
 refine (greatC hX (by omega) (by omega)).use ?_
 unfold beyondB
 by_cases h1 : partsE x 5000 < 0
 ·(repeat' first | ((first | refine vy1 ?_ ?_ | refine vy2 ?_ ?_ | refine vy3 ?_ ?_) <;> rintro ⟨hd, hq⟩ <;> first | (exfalso; omega) | simp -implicitDefEqProofs only [go_sem, hd] | skip) | refine vzt ?_ | refine vzf ?_ | refine vsb ?_ | refine vzb ?_ | refine vzq ?_ | simp -implicitDefEqProofs only [go_sem, dct h1])
  exact ⟨_, rfl, rfl⟩
 ·(repeat' first | ((first | refine vy1 ?_ ?_ | refine vy2 ?_ ?_ | refine vy3 ?_ ?_) <;> rintro ⟨hd, hq⟩ <;> first | (exfalso; omega) | simp -implicitDefEqProofs only [go_sem, hd] | skip) | refine vzt ?_ | refine vzf ?_ | refine vsb ?_ | refine vzb ?_ | refine vzq ?_ | simp -implicitDefEqProofs only [go_sem, dcf h1])
  refine (longC (most := 200) hS lg hs (by omega)).use ?_
  cases h2 : longB g 200 with
  | true =>
   (repeat' first | ((first | refine vy1 ?_ ?_ | refine vy2 ?_ ?_ | refine vy3 ?_ ?_) <;> rintro ⟨hd, hq⟩ <;> first | (exfalso; omega) | simp -implicitDefEqProofs only [go_sem, hd] | skip) | refine vzt ?_ | refine vzf ?_ | refine vsb ?_ | refine vzb ?_ | refine vzq ?_ | simp -implicitDefEqProofs only [go_sem, h2])
   exact ⟨_, rfl, rfl⟩
  | false =>
   (repeat' first | ((first | refine vy1 ?_ ?_ | refine vy2 ?_ ?_ | refine vy3 ?_ ?_) <;> rintro ⟨hd, hq⟩ <;> first | (exfalso; omega) | simp -implicitDefEqProofs only [go_sem, hd] | skip) | refine vzt ?_ | refine vzf ?_ | refine vsb ?_ | refine vzb ?_ | refine vzq ?_ | simp -implicitDefEqProofs only [go_sem, h2])
   refine (greatFC (most := 5000) hL hl hlen (by omega)).use ?_
   (repeat' first | ((first | refine vy1 ?_ ?_ | refine vy2 ?_ ?_ | refine vy3 ?_ ?_) <;> rintro ⟨hd, hq⟩ <;> first | (exfalso; omega) | simp -implicitDefEqProofs only [go_sem, hd] | skip) | refine vzt ?_ | refine vzf ?_ | refine vsb ?_ | refine vzb ?_ | refine vzq ?_ | simp -implicitDefEqProofs only [go_sem])
   exact ⟨_, rfl, rfl⟩
theorem beyond_not {x : Ex} {g : List ByteArray} {l : List Fc} (h : beyondB x g l = false) : nodesE x ≤ 5000 ∧ g.length ≤ 200 ∧ nodesF l ≤ 5000 ∧ l.length ≤ 5000 ∧ ∀ f ∈ l, f.ps.length ≤ 5000 := by
 unfold beyondB at h
 simp only [Bool.or_eq_false_iff, decide_eq_false_iff_not] at h
 obtain ⟨h1, h2, h3⟩ := h
 obtain ⟨a, b, c⟩ := greatF_nodes h3
 have d := partsE_nodes x 5000 (by omega)
 have e := partsE_le x 5000
 simp only [longB, Bool.or_eq_false_iff, decide_eq_false_iff_not] at h2
 exact ⟨by omega, by omega, by omega, by omega, fun f hf => (c f hf).1⟩
theorem IsEx.frzN : ∀ (x : Ex), ∃ N, ∀ (v : AVal) (σ : AStore) (M : Nat), IsEx x v → N ≤ M → Abs.frz σ M v = some v := by
 intro x
 refine Ex.rec (motive_1 := fun x => ∃ N, ∀ (v : AVal) (σ : AStore) (M : Nat), IsEx x v → N ≤ M → Abs.frz σ M v = some v)
  (motive_2 := fun xs => ∃ N, ∀ (els : List AVal) (σ : AStore) (M : Nat), IsExs xs els → N ≤ M → mapO (Abs.frz σ M) els = some els) ?_ ?_ ?_ x
 ·rintro k nm i zs ⟨N, hN⟩
  refine ⟨N + 3, fun v σ M h hM => ?_⟩
  simp only [IsEx] at h
  obtain ⟨S, els, rfl, hS, hs, _⟩ := h
  obtain ⟨M, rfl⟩ : ∃ k, M = k + 2 := ⟨M - 2, by omega⟩
  rw [frz_agg, mapO_cons', mapO_cons', mapO_cons', mapO_cons', mapO_nil']
  have hS1 : Abs.frz σ (M + 1) S = some S := by
   rcases hS with ⟨rfl, a, c, rfl⟩ | ⟨t, rfl⟩
   ·rfl
   ·rw [frz_data, hN els σ M hs (by omega)]; rfl
  rw [hS1]; rfl
 ·refine ⟨0, fun els σ M h hM => ?_⟩
  simp only [IsExs] at h
  subst h; rfl
 ·rintro x xs ⟨N1, h1⟩ ⟨N2, h2⟩
  refine ⟨N1 + N2, fun els σ M h hM => ?_⟩
  simp only [IsExs] at h
  obtain ⟨e, es, rfl, a, b⟩ := h
  rw [mapO_cons', h1 e σ M a (by omega), h2 es σ M b (by omega)]; rfl
theorem IsExs.frzN (xs : List Ex) : ∃ N, ∀ (els : List AVal) (σ : AStore) (M : Nat), IsExs xs els → N ≤ M → mapO (Abs.frz σ M) els = some els := by
 induction xs with
 | nil =>
  refine ⟨0, fun els σ M h hM => ?_⟩
  simp only [IsExs] at h
  subst h; rfl
 | cons x xs ih =>
  obtain ⟨N1, h1⟩ := IsEx.frzN x
  obtain ⟨N2, h2⟩ := ih
  refine ⟨N1 + N2, fun els σ M h hM => ?_⟩
  simp only [IsExs] at h
  obtain ⟨e, es, rfl, a, b⟩ := h
  rw [mapO_cons', h1 e σ M a (by omega), h2 es σ M b (by omega)]; rfl
theorem IsExs.snoc : ∀ {xs : List Ex} {els : List AVal} {x : Ex} {e : AVal}, IsExs xs els → IsEx x e → IsExs (xs ++ [x]) (els ++ [e])
  | [], els, x, e, h, h1 => by simp only [IsExs] at h; subst h; exact ⟨e, [], rfl, h1, rfl⟩
  | y :: xs, els, x, e, h, h1 => by
      simp only [IsExs] at h
      obtain ⟨a, as', rfl, h2, h3⟩ := h
      exact ⟨a, as' ++ [e], rfl, h2, IsExs.snoc h3 h1⟩
theorem len_nodesEs : ∀ xs : List Ex, xs.length ≤ nodesEs xs
  | [] => Nat.le_refl _
  | x :: xs => by
      have := len_nodesEs xs
      have := nodesE_pos x
      simp only [nodesEs, List.length_cons]; omega
theorem copiedStep {k i : Int} {nm : ByteArray} {xs : List Ex} {w : WD} {v : AVal} (h : IsEx (.mk k nm i xs) v) (hb : nodesE (.mk k nm i xs) ≤ 1000000)
  (rec : ∀ y ∈ xs, ∀ (w : WD) (v : AVal), IsEx y v → nodesE y ≤ 1000000 → Gives (EE w) 41 [v] (IsEx y)) :
  Gives (EE w) 41 [v] (IsEx (.mk k nm i xs)) := by
 have hwf := h.wf
 simp only [IsEx] at h
 obtain ⟨S, els, rfl, hS, hx, hk, hi, hn, hl⟩ := h
 have hlen := hx.len
 have hSn := fun σ : AStore => hS.lenN hlen (σ := σ)
 have kS := hS.fit
 have cS := hS.cells
 have iS := hS.isCell
 obtain ⟨N, hN⟩ := IsExs.frzN xs
 have hxn : xs.length ≤ nodesEs xs := len_nodesEs xs
 have hnm : nodesE (.mk k nm i xs) = 1 + nodesEs xs := by simp only [nodesE]
 refine Gives.of (fun _ => .sc _) (.cons _ _ hwf .nil) (N + 3) ?_
 refine of_41 rfl rfl rfl (by kernel_rfl) ?_
 simp -implicitDefEqProofs only [go_sem, kS, cS, iS]
 have g0 : ((empty.alloc (.cells 4 [.agg [(.sc (.int .i64 (k))), .sc (.string nm), (.sc (.int .i64 (i))), S]])).alloc (.cells 4 [.agg [(.sc (.int .i64 (0))), .sc (.string ⟨#[]⟩), (.sc (.int .i64 (0))), (.sc (.slice none 0 0))]])).get 0 = some (.cells 4 [.agg [(.sc (.int .i64 (k))), .sc (.string nm), (.sc (.int .i64 (i))), S]]) := get_alloc_old (by rw [AStore.get_alloc]; rfl)
 have g1 : ((empty.alloc (.cells 4 [.agg [(.sc (.int .i64 (k))), .sc (.string nm), (.sc (.int .i64 (i))), S]])).alloc (.cells 4 [.agg [(.sc (.int .i64 (0))), .sc (.string ⟨#[]⟩), (.sc (.int .i64 (0))), (.sc (.slice none 0 0))]])).get 1 = some (.cells 4 [.agg [(.sc (.int .i64 (0))), .sc (.string ⟨#[]⟩), (.sc (.int .i64 (0))), (.sc (.slice none 0 0))]]) := by rw [AStore.get_alloc]; rfl
 generalize (empty.alloc (.cells 4 [.agg [(.sc (.int .i64 (k))), .sc (.string nm), (.sc (.int .i64 (i))), S]])).alloc (.cells 4 [.agg [(.sc (.int .i64 (0))), .sc (.string ⟨#[]⟩), (.sc (.int .i64 (0))), (.sc (.slice none 0 0))]]) = τ at g0 g1 ⊢
 refine vlp (ι := AVal × Nat) (fun p => [(1, .ptr 0 0 0), (2, .ptr 1 0 0), (3, p.1), (4, (.sc (.int .i64 (p.2))))]) (fun p τ => p.2 ≤ xs.length ∧ τ.get 0 = some (.cells 4 [.agg [(.sc (.int .i64 (k))), .sc (.string nm), (.sc (.int .i64 (i))), S]]) ∧ τ.get 1 = some (.cells 4 [.agg [(.sc (.int .i64 (0))), .sc (.string ⟨#[]⟩), (.sc (.int .i64 (0))), (.sc (.slice none 0 0))]]) ∧ ∃ es, IsExs (xs.take p.2) es ∧ Own τ 4 p.1 es ∧ ∀ b l, p.1 = .slice b 0 l → 2 ≤ b) (fun p => xs.length - p.2) (fun _ => rfl) ((.sc (.slice none 0 0)), 0) ?_ ?_ ?_
 ·(repeat' (first | exact trivial | refine ⟨rfl, ?_⟩))
 ·exact ⟨Nat.zero_le _, g0, g1, [], rfl, Own.nil, by intro b l h; cases h⟩
 clear g0 g1
 rintro ⟨A, j⟩ τ ⟨hj, g0, g1, es, hes, hA, hAb⟩
 simp only at hj hes hA hAb
 have hn2 : 2 ≤ τ.next := AStore.lt_of_get g1
 have kA := hA.fit
 have cA := hA.cells
 have iA := hA.isCell
 simp -implicitDefEqProofs only [go_sem, g0, hSn]
 ((first | refine vz2 ?_ ?_ | refine vz3 ?_ ?_) <;> intro hlt)
 ·obtain ⟨x, hx1⟩ : ∃ x, xs[j]? = some x := ⟨xs[j]'(by omega), by simp⟩
  obtain ⟨e, he, hxe⟩ := hx.at hx1
  obtain ⟨d1, d2, d3⟩ := hxe.isA.facts
  have dc := hxe.cellsOk
  have hxb := nodesE_at hx1
  have hw := wrapS (i := j) (by omega)
  (repeat' first | ((first | refine vy1 ?_ ?_ | refine vy2 ?_ ?_ | refine vy3 ?_ ?_) <;> rintro ⟨hd, hq⟩ <;> first | (exfalso; omega) | simp -implicitDefEqProofs only [go_sem, hd] | skip) | refine vzt ?_ | refine vzf ?_ | refine vsb ?_ | refine vzb ?_ | refine vzq ?_ | simp -implicitDefEqProofs only [go_sem, g0, kS, cS, iS, hS.idx he, d1, d2, d3, dc])
  refine (rec x (List.mem_of_getElem? hx1) _ e hxe (by omega)).use ?_
  rintro e' hxe'
  obtain ⟨b1, b2, b3⟩ := hxe'.isA.facts
  have bc := hxe'.cellsOk
  have hel : es.length = j := by rw [hes.len, List.length_take]; omega
  have hfit' : e'.fit = true := by obtain ⟨cs, rfl, _⟩ := hxe'.isA; rfl
  obtain ⟨σ', a1, a2, a3, a4⟩ := (hA.alloc (.cells 4 [e'])).append (bytes := 56) (xs := [e']) (by simp) (by simp; omega) (by decide) (by decide) (by simp [Abs.allCells, bc])
  rw [show (es ++ [e']).length = j + 1 by simp [hel]] at a1 a2
  simp only [alloc_next] at a1 a2 a3
  have g0' := a4 0 _ (get_alloc_old g0) (fun l hl => by have := hAb _ _ hl; omega)
  have g1' := a4 1 _ (get_alloc_old g1) (fun l hl => by have := hAb _ _ hl; omega)
  simp -implicitDefEqProofs only [go_sem, kA, cA, iA, b1, b2, b3, bc, hfit', a1]
  (repeat' first | ((first | refine vy1 ?_ ?_ | refine vy2 ?_ ?_ | refine vy3 ?_ ?_) <;> rintro ⟨hd, hq⟩ <;> first | (exfalso; omega) | simp -implicitDefEqProofs only [go_sem, hd] | skip) | refine vzt ?_ | refine vzf ?_ | refine vsb ?_ | refine vzb ?_ | refine vzq ?_ | simp -implicitDefEqProofs only [go_sem, hw])
  refine ⟨(.slice (τ.next + 1) 0 (j + 1), j + 1), by dsimp only; omega, ⟨by dsimp only; omega, g0', g1', es ++ [e'], ?_, a2, ?_⟩, by (repeat' (first | exact trivial | refine ⟨rfl, ?_⟩))⟩
  ·rw [show xs.take (j + 1) = xs.take j ++ [x] by rw [List.take_add_one, hx1]; rfl]
   exact hes.snoc hxe'
  ·intro b l hb
   dsimp only at hb
   injection hb; omega
 ·obtain rfl : j = xs.length := by omega
  rw [List.take_length] at hes
  have h0 : 0 < τ.next := by omega
  have h1 : 1 < τ.next := by omega
  (repeat' first | ((first | refine vy1 ?_ ?_ | refine vy2 ?_ ?_ | refine vy3 ?_ ?_) <;> rintro ⟨hd, hq⟩ <;> first | (exfalso; omega) | simp -implicitDefEqProofs only [go_sem, hd] | skip) | refine vzt ?_ | refine vzf ?_ | refine vsb ?_ | refine vzb ?_ | refine vzq ?_ | simp -implicitDefEqProofs only [go_sem, g0, g1, kA, cA, iA, kS, cS, iS, h0, h1])
  refine ⟨_, .agg [(.sc (.int .i64 (k))), .sc (.string nm), (.sc (.int .i64 (i))), if es = [] then (.sc (.slice none 0 0)) else .data 4 false es], rfl, ?_, ?_⟩
  ·have hA' : Own ((τ.set 0 (.cells 4 [.agg [(.sc (.int .i64 (k))), .sc (.string nm), (.sc (.int .i64 (i))), A]])).set 1 (.cells 4 [.agg [(.sc (.int .i64 (k))), .sc (.string nm), (.sc (.int .i64 (i))), A]])) 4 A es := hA.mono fun b y hb hg => by
    have := hAb _ _ hb
    rw [AStore.get_set, if_neg (by omega), AStore.get_set, if_neg (by omega)]; exact hg
   have hz := hA'.frz (hN es _ (N + 1) hes (by omega))
   rw [frz_agg, mapO_cons', mapO_cons', mapO_cons', mapO_cons', mapO_nil', hz]; rfl
  ·simp only [IsEx]
   refine ⟨_, es, rfl, ?_, hes, hk, hi, hn, by rw [hes.len, ← hlen]; exact hl⟩
   split
   ·rename_i he; subst he; exact .inl ⟨rfl, _, _, rfl⟩
   ·exact .inr ⟨_, rfl⟩
theorem copiedC : ∀ {x : Ex} {w : WD} {v : AVal}, IsEx x v → nodesE x ≤ 1000000 → Gives (EE w) 41 [v] (IsEx x)
 | .mk _ _ _ xs, _, _, h, h1 => copiedStep h h1 fun x hx _ _ h h1 => copiedC (x := x) h h1
termination_by x => sizeOf x
decreasing_by have := List.sizeOf_lt_of_mem hx; simp only [Ex.mk.sizeOf_spec]; omega
theorem IsD.frzN {σ : AStore} {sz M : Nat} {S : AVal} {els : List AVal} (hS : IsD sz S els) (h : mapO (Abs.frz σ M) els = some els) : Abs.frz σ (M + 1) S = some S := by
 rcases hS with ⟨rfl, a, c, rfl⟩ | ⟨t, rfl⟩
 ·rfl
 ·rw [frz_data, h]; rfl
theorem IsSt.frzN : ∀ (x : St), ∃ N, ∀ (v : AVal) (σ : AStore) (M : Nat), IsSt x v → N ≤ M → Abs.frz σ M v = some v := by
 intro x
 refine St.rec (motive_1 := fun x => ∃ N, ∀ (v : AVal) (σ : AStore) (M : Nat), IsSt x v → N ≤ M → Abs.frz σ M v = some v)
  (motive_2 := fun xs => ∃ N, ∀ (els : List AVal) (σ : AStore) (M : Nat), IsSts xs els → N ≤ M → mapO (Abs.frz σ M) els = some els) ?_ ?_ ?_ x
 ·rintro k nm v b e ⟨N1, h1⟩ ⟨N2, h2⟩
  obtain ⟨N3, h3⟩ := IsExs.frzN v.args
  refine ⟨N1 + N2 + N3 + 3, fun w σ M h hM => ?_⟩
  simp only [IsSt] at h
  obtain ⟨SA, SB, SE, ea, eb, ee, rfl, hA, ha, hB, hb, hE, he, _⟩ := h
  obtain ⟨M, rfl⟩ : ∃ k, M = k + 2 := ⟨M - 2, by omega⟩
  rw [frz_agg, mapO_cons', mapO_cons', mapO_cons', mapO_cons', mapO_cons', mapO_cons', mapO_cons', mapO_cons', mapO_nil',
   hA.frzN (h3 ea σ M ha (by omega)), hB.frzN (h1 eb σ M hb (by omega)), hE.frzN (h2 ee σ M he (by omega))]
  rfl
 ·refine ⟨0, fun els σ M h hM => ?_⟩
  simp only [IsSts] at h
  subst h; rfl
 ·rintro x xs ⟨N1, h1⟩ ⟨N2, h2⟩
  refine ⟨N1 + N2, fun els σ M h hM => ?_⟩
  simp only [IsSts] at h
  obtain ⟨e, es, rfl, a, b⟩ := h
  rw [mapO_cons', h1 e σ M a (by omega), h2 es σ M b (by omega)]; rfl
theorem IsSts.frzN (xs : List St) : ∃ N, ∀ (els : List AVal) (σ : AStore) (M : Nat), IsSts xs els → N ≤ M → mapO (Abs.frz σ M) els = some els := by
 induction xs with
 | nil =>
  refine ⟨0, fun els σ M h hM => ?_⟩
  simp only [IsSts] at h
  subst h; rfl
 | cons x xs ih =>
  obtain ⟨N1, h1⟩ := IsSt.frzN x
  obtain ⟨N2, h2⟩ := ih
  refine ⟨N1 + N2, fun els σ M h hM => ?_⟩
  simp only [IsSts] at h
  obtain ⟨e, es, rfl, a, b⟩ := h
  rw [mapO_cons', h1 e σ M a (by omega), h2 es σ M b (by omega)]; rfl
theorem IsSts.snoc : ∀ {xs : List St} {els : List AVal} {x : St} {e : AVal}, IsSts xs els → IsSt x e → IsSts (xs ++ [x]) (els ++ [e])
  | [], els, x, e, h, h1 => by simp only [IsSts] at h; subst h; exact ⟨e, [], rfl, h1, rfl⟩
  | y :: xs, els, x, e, h, h1 => by
      simp only [IsSts] at h
      obtain ⟨a, as', rfl, h2, h3⟩ := h
      exact ⟨a, as' ++ [e], rfl, h2, IsSts.snoc h3 h1⟩
theorem len_nodesSs' : ∀ xs : List St, xs.length ≤ nodesSs xs
  | [] => Nat.le_refl _
  | x :: xs => by
      have := len_nodesSs' xs
      have : 1 ≤ nodesS x := by cases x; simp only [nodesS]; omega
      simp only [nodesSs, List.length_cons]; omega
theorem ex_inv {v : Ex} {e : AVal} (h : IsEx v e) : ∃ S els, e = .agg [(.sc (.int .i64 (v.k))), .sc (.string v.nm), (.sc (.int .i64 (v.i))), S] ∧ IsD 4 S els ∧ IsExs v.args els ∧ els.length ≤ 281474976710656 := by
 cases v with
 | mk k nm i l =>
  simp only [IsEx] at h
  obtain ⟨S, els, rfl, hS, hs, _, _, _, hl⟩ := h
  exact ⟨S, els, rfl, hS, hs, hl⟩
theorem Own.set' {σ : AStore} {sz m : Nat} {v : AVal} {els : List AVal} (h : Own σ sz v els) (hne : ∀ l, v ≠ .slice m 0 l) (y : ABlk) : Own (σ.set m y) sz v els := h.mono fun b z hb hg => by
 rw [AStore.get_set, if_neg ?_]
 ·exact hg
 ·rintro ⟨rfl, _⟩; exact hne _ hb
def IsL8 (xs : List St) (r : AVal) : Prop := ∃ els, IsD 8 r els ∧ IsSts xs els
theorem copiesStep {xs : List St} {w : WD} {L : AVal} {els : List AVal} (hL : IsD 8 L els) (hx : IsSts xs els) (hlen : els.length ≤ 281474976710656) (hb : nodesSs xs ≤ 1000000)
  (rec : ∀ x ∈ xs, ∀ (ys : List St), (∀ k nm v b e, x = .mk k nm v b e → ys = b ∨ ys = e) → ∀ (w : WD) (L : AVal) (els : List AVal), IsD 8 L els → IsSts ys els → els.length ≤ 281474976710656 → nodesSs ys ≤ 1000000 →
   Gives (EE w) 22 [L] (IsL8 ys)) : Gives (EE w) 22 [L] (IsL8 xs) := by
 have hln := hx.len
 have hLn := fun σ : AStore => hL.lenN hln (σ := σ)
 have hxl := len_nodesSs' xs
 obtain ⟨N, hN⟩ := IsSts.frzN xs
 refine Gives.of (fun _ => .sc _) (.cons _ _ (hL.wf hx.wf) .nil) (N + 3) ?_
 refine of_22 rfl rfl rfl (by kernel_rfl) ?_
 simp -implicitDefEqProofs only [go_sem]
 refine vlp (ι := AVal × Nat) (fun p => [(0, L), (3, p.1), (4, (.sc (.int .i64 (p.2))))]) (fun p τ => p.2 ≤ xs.length ∧ ∃ es, IsSts (xs.take p.2) es ∧ Own τ 8 p.1 es) (fun p => xs.length - p.2) (fun _ => rfl) ((.sc (.slice none 0 0)), 0) ?_ ?_ ?_
 ·(repeat' (first | exact trivial | refine ⟨rfl, ?_⟩))
 ·exact ⟨Nat.zero_le _, [], rfl, Own.nil⟩
 rintro ⟨A, j⟩ τ ⟨hj, es, hes, hA⟩
 simp only at hj hes hA
 have kA := hA.fit
 have cA := hA.cells
 have iA := hA.isCell
 simp -implicitDefEqProofs only [go_sem, hLn]
 ((first | refine vz2 ?_ ?_ | refine vz3 ?_ ?_) <;> intro hlt)
 ·obtain ⟨x, hx1⟩ : ∃ x, xs[j]? = some x := ⟨xs[j]'(by omega), by simp⟩
  obtain ⟨e, he, hxe⟩ := hx.at hx1
  have hmem := List.mem_of_getElem? hx1
  have hxb := nodesS_at hx1
  have htk : xs.take (j + 1) = xs.take j ++ [x] := by rw [List.take_add_one, hx1]; rfl
  obtain ⟨k, nm, v, body, els'⟩ := x
  simp only [IsSt] at hxe
  obtain ⟨SA, SB, SE, ea, eb, ee, rfl, hA', ha, hB, hb', hE, hee, h1, h2, h3, h4, h5, h6, h7, h8⟩ := hxe
  have hvx := ex_of hA' ha h2 h3 h5 h6
  simp only [nodesS] at hxb
  have k1 := hA'.fit
  have c1 := hA'.cells
  have i1 := hA'.isCell
  have k2 := hB.fit
  have c2 := hB.cells
  have i2 := hB.isCell
  have k3 := hE.fit
  have c3 := hE.cells
  have i3 := hE.isCell
  have hw := wrapS (i := j) (by omega)
  (repeat' first | ((first | refine vy1 ?_ ?_ | refine vy2 ?_ ?_ | refine vy3 ?_ ?_) <;> rintro ⟨hd, hq⟩ <;> first | (exfalso; omega) | simp -implicitDefEqProofs only [go_sem, hd] | skip) | refine vzt ?_ | refine vzf ?_ | refine vsb ?_ | refine vzb ?_ | refine vzq ?_ | simp -implicitDefEqProofs only [go_sem, hL.idx he, k1, c1, i1, k2, c2, i2, k3, c3, i3])
  have gz : ((τ.alloc (.cells 8 [.agg [(.sc (.int .i64 (0))), .sc (.string ⟨#[]⟩), (.sc (.int .i64 (0))), .sc (.string ⟨#[]⟩), (.sc (.int .i64 (0))), (.sc (.slice none 0 0)), (.sc (.slice none 0 0)), (.sc (.slice none 0 0))]])).set τ.next (.cells 8 [.agg [(.sc (.int .i64 (k))), .sc (.string nm), (.sc (.int .i64 (v.k))), .sc (.string v.nm), (.sc (.int .i64 (v.i))), SA, SB, SE]])).get τ.next = some (.cells 8 [.agg [(.sc (.int .i64 (k))), .sc (.string nm), (.sc (.int .i64 (v.k))), .sc (.string v.nm), (.sc (.int .i64 (v.i))), SA, SB, SE]]) := by rw [AStore.get_set, if_pos ⟨rfl, by simp only [alloc_next]; omega⟩]
  have gA : Own ((τ.alloc (.cells 8 [.agg [(.sc (.int .i64 (0))), .sc (.string ⟨#[]⟩), (.sc (.int .i64 (0))), .sc (.string ⟨#[]⟩), (.sc (.int .i64 (0))), (.sc (.slice none 0 0)), (.sc (.slice none 0 0)), (.sc (.slice none 0 0))]])).set τ.next (.cells 8 [.agg [(.sc (.int .i64 (k))), .sc (.string nm), (.sc (.int .i64 (v.k))), .sc (.string v.nm), (.sc (.int .i64 (v.i))), SA, SB, SE]])) 8 A es := hA.mono fun b y _ hg => by
   have := AStore.lt_of_get hg
   rw [AStore.get_set, if_neg (by omega)]; exact get_alloc_old hg
  have gn : ((τ.alloc (.cells 8 [.agg [(.sc (.int .i64 (0))), .sc (.string ⟨#[]⟩), (.sc (.int .i64 (0))), .sc (.string ⟨#[]⟩), (.sc (.int .i64 (0))), (.sc (.slice none 0 0)), (.sc (.slice none 0 0)), (.sc (.slice none 0 0))]])).set τ.next (.cells 8 [.agg [(.sc (.int .i64 (k))), .sc (.string nm), (.sc (.int .i64 (v.k))), .sc (.string v.nm), (.sc (.int .i64 (v.i))), SA, SB, SE]])).next = τ.next + 1 := rfl
  have gne : ∀ l, A ≠ .slice τ.next 0 l := by
   rintro l rfl
   rcases hA with ⟨_, h⟩ | ⟨_, b, hb, hg⟩
   ·cases h
   ·injection hb with e1; subst e1
    have := AStore.lt_of_get hg; omega
  generalize (τ.alloc (.cells 8 [.agg [(.sc (.int .i64 (0))), .sc (.string ⟨#[]⟩), (.sc (.int .i64 (0))), .sc (.string ⟨#[]⟩), (.sc (.int .i64 (0))), (.sc (.slice none 0 0)), (.sc (.slice none 0 0)), (.sc (.slice none 0 0))]])).set τ.next (.cells 8 [.agg [(.sc (.int .i64 (k))), .sc (.string nm), (.sc (.int .i64 (v.k))), .sc (.string v.nm), (.sc (.int .i64 (v.i))), SA, SB, SE]]) = τ1 at gz gA gn ⊢
  generalize τ.next = m at gz gn gne ⊢
  clear hA
  ((try (refine Z_seq ?_; (try simp -implicitDefEqProofs only [go_sem]))); refine Z_draw (by kernel_rfl) [0, 1, 3, 4, 6, 7, 2, 9, 5, 8, 10, 11, 12, 13, 14] [(14, 16383), (13, 8191), (12, 4095), (11, 2047), (10, 1023), (8, 255), (5, 31), (9, 223), (2, 3), (7, 64), (6, 0), (4, 8), (3, 0), (1, 1), (0, 0)] (by kernel_rfl) (by kernel_rfl) ?_)
  simp -implicitDefEqProofs only [go_sem, gz, k1, c1, i1, k2, c2, i2, k3, c3, i3]
  refine (copiedC hvx (by omega)).useD ?_
  rintro v' hv'
  obtain ⟨SA', ea', rfl, hA2, ha2, q1⟩ := ex_inv hv'
  have k1' := hA2.fit
  have c1' := hA2.cells
  have i1' := hA2.isCell
  simp -implicitDefEqProofs only [go_sem, gz, k1, c1, i1, k2, c2, i2, k3, c3, i3]
  refine (rec _ hmem body (fun _ _ _ _ _ h => by cases h; exact .inl rfl) _ SB eb hB hb' h7 (by omega)).useD ?_
  rintro SB' ⟨eb', hB2, hb2⟩
  have k2' := hB2.fit
  have c2' := hB2.cells
  have i2' := hB2.isCell
  simp -implicitDefEqProofs only [go_sem, gz, k1, c1, i1, k2, c2, i2, k3, c3, i3]
  refine (rec _ hmem els' (fun _ _ _ _ _ h => by cases h; exact .inr rfl) _ SE ee hE hee h8 (by omega)).useD ?_
  rintro SE' ⟨ee', hE2, he2⟩
  have k3' := hE2.fit
  have c3' := hE2.cells
  have i3' := hE2.isCell
  have hel : es.length = j := by rw [hes.len, List.length_take]; omega
  have hnew : IsSt (.mk k nm v body els') (.agg [(.sc (.int .i64 (k))), .sc (.string nm), (.sc (.int .i64 (v.k))), .sc (.string v.nm), (.sc (.int .i64 (v.i))), SA', SB', SE']) := by
   simp only [IsSt]
   exact ⟨SA', SB', SE', ea', eb', ee', rfl, hA2, ha2, hB2, hb2, hE2, he2, h1, h2, h3, h4, h5, q1, by rw [hb2.len, ← hb'.len]; exact h7, by rw [he2.len, ← hee.len]; exact h8⟩
  obtain ⟨σ', a1, a2, a3, a4⟩ := ((((gA.set' gne (.cells 8 [.agg [(.sc (.int .i64 (k))), .sc (.string nm), (.sc (.int .i64 (v.k))), .sc (.string v.nm), (.sc (.int .i64 (v.i))), SA', SB, SE]])).set' gne (.cells 8 [.agg [(.sc (.int .i64 (k))), .sc (.string nm), (.sc (.int .i64 (v.k))), .sc (.string v.nm), (.sc (.int .i64 (v.i))), SA', SB', SE]])).set' gne (.cells 8 [.agg [(.sc (.int .i64 (k))), .sc (.string nm), (.sc (.int .i64 (v.k))), .sc (.string v.nm), (.sc (.int .i64 (v.i))), SA', SB', SE']])).alloc (.cells 8 [.agg [(.sc (.int .i64 (k))), .sc (.string nm), (.sc (.int .i64 (v.k))), .sc (.string v.nm), (.sc (.int .i64 (v.i))), SA', SB', SE']])).append (bytes := 128) (xs := [(.agg [(.sc (.int .i64 (k))), .sc (.string nm), (.sc (.int .i64 (v.k))), .sc (.string v.nm), (.sc (.int .i64 (v.i))), SA', SB', SE'])]) (by simp) (by simp; omega) (by decide) (by decide) (by unfold Abs.allCells; rw [List.all_cons, hnew.cellsOk]; rfl)
  rw [show (es ++ [AVal.agg [(.sc (.int .i64 (k))), .sc (.string nm), (.sc (.int .i64 (v.k))), .sc (.string v.nm), (.sc (.int .i64 (v.i))), SA', SB', SE']]).length = j + 1 by simp [hel]] at a1 a2
  simp only [alloc_next, set_next] at a1 a2 a3
  simp -implicitDefEqProofs only [go_sem, gz, k1, c1, i1, k2, c2, i2, k3, c3, i3, k1', c1', i1', k2', c2', i2', k3', c3', i3', (show m < τ1.next by omega), a1]
  (repeat' first | ((first | refine vy1 ?_ ?_ | refine vy2 ?_ ?_ | refine vy3 ?_ ?_) <;> rintro ⟨hd, hq⟩ <;> first | (exfalso; omega) | simp -implicitDefEqProofs only [go_sem, hd] | skip) | refine vzt ?_ | refine vzf ?_ | refine vsb ?_ | refine vzb ?_ | refine vzq ?_ | simp -implicitDefEqProofs only [go_sem, hw])
  refine ⟨(.slice (τ1.next + 1) 0 (j + 1), j + 1), by dsimp only; omega, ⟨by dsimp only; omega, _, ?_, a2⟩, by (repeat' (first | exact trivial | refine ⟨rfl, ?_⟩))⟩
  rw [htk]
  exact hes.snoc hnew
 ·obtain rfl : j = xs.length := by omega
  rw [List.take_length] at hes
  (repeat' first | ((first | refine vy1 ?_ ?_ | refine vy2 ?_ ?_ | refine vy3 ?_ ?_) <;> rintro ⟨hd, hq⟩ <;> first | (exfalso; omega) | simp -implicitDefEqProofs only [go_sem, hd] | skip) | refine vzt ?_ | refine vzf ?_ | refine vsb ?_ | refine vzb ?_ | refine vzq ?_ | simp -implicitDefEqProofs only [go_sem])
  refine ⟨_, if es = [] then (.sc (.slice none 0 0)) else .data 8 false es, rfl, hA.frz (n := N + 2) (hN es _ (N + 2) hes (by omega)), es, ?_, hes⟩
  split
  ·rename_i he; subst he; exact .inl ⟨rfl, _, _, rfl⟩
  ·exact .inr ⟨_, rfl⟩
theorem copiesC : ∀ {N : Nat} {xs : List St} {w : WD} {L : AVal} {els : List AVal}, nodesSs xs ≤ N → IsD 8 L els → IsSts xs els → els.length ≤ 281474976710656 → nodesSs xs ≤ 1000000 → Gives (EE w) 22 [L] (IsL8 xs)
  | 0, xs, w, L, els, hN, hL, hx, hl, h2 => copiesStep hL hx hl h2 fun x hx => by
      obtain ⟨j, hj⟩ := List.getElem?_of_mem hx
      have h1 := nodesS_at hj
      obtain ⟨k, nm, v, b, e⟩ := x
      have := nodesE_pos v
      simp only [nodesS] at h1
      omega
  | N + 1, xs, w, L, els, hN, hL, hx, hl, h2 => copiesStep hL hx hl h2 fun x hx ys hy w L els hL' hx' hl' h2' => by
      obtain ⟨j, hj⟩ := List.getElem?_of_mem hx
      have h1 := nodesS_at hj
      obtain ⟨k, nm, v, b, e⟩ := x
      have := nodesE_pos v
      simp only [nodesS] at h1
      rcases hy _ _ _ _ _ rfl with rfl | rfl
      · exact copiesC (N := N) (by omega) hL' hx' hl' h2'
      · exact copiesC (N := N) (by omega) hL' hx' hl' h2'
def HasB (τ : AStore) (A X : AVal) (ps : List ByteArray) : Prop := IsD 1 X (ps.map sA) ∨ ∃ b, X = .slice b 0 ps.length ∧ τ.get b = some (.cells 1 (ps.map sA)) ∧ ∀ l, A ≠ .slice b 0 l
def CpF (τ : AStore) (A : AVal) : List Fc → List AVal → Prop
 | [], es => es = []
 | f :: fs, es => ∃ X SB eb es', es = .agg [.sc (.string f.nm), X, SB] :: es' ∧ HasB τ A X f.ps ∧ IsD 8 SB eb ∧ IsSts f.body eb ∧ CpF τ A fs es'
theorem CpF.len {τ : AStore} {A : AVal} : ∀ {fs : List Fc} {es : List AVal}, CpF τ A fs es → es.length = fs.length
  | [], es, h => by simp only [CpF] at h; subst h; rfl
  | f :: fs, es, h => by
      simp only [CpF] at h
      obtain ⟨X, SB, eb, es', rfl, _, _, _, h⟩ := h
      simp [CpF.len h]
theorem CpF.mono {τ τ' : AStore} {A A' : AVal} (hk : ∀ b y, τ.get b = some y → (∀ l, A ≠ .slice b 0 l) → τ'.get b = some y ∧ ∀ l, A' ≠ .slice b 0 l) : ∀ {fs : List Fc} {es : List AVal}, CpF τ A fs es → CpF τ' A' fs es
  | [], es, h => h
  | f :: fs, es, h => by
      simp only [CpF] at h ⊢
      obtain ⟨X, SB, eb, es', rfl, hX, hB, hb, h⟩ := h
      refine ⟨X, SB, eb, es', rfl, ?_, hB, hb, CpF.mono hk h⟩
      rcases hX with hX | ⟨b, rfl, hg, hn⟩
      · exact .inl hX
      · exact .inr ⟨b, rfl, (hk b _ hg hn).1, (hk b _ hg hn).2⟩
theorem CpF.snoc {τ : AStore} {A X SB : AVal} {eb : List AVal} {f : Fc} (hX : HasB τ A X f.ps) (hB : IsD 8 SB eb) (hb : IsSts f.body eb) : ∀ {fs : List Fc} {es : List AVal}, CpF τ A fs es → CpF τ A (fs ++ [f]) (es ++ [.agg [.sc (.string f.nm), X, SB]])
  | [], es, h => by simp only [CpF] at h; subst h; exact ⟨X, SB, eb, [], rfl, hX, hB, hb, rfl⟩
  | g :: fs, es, h => by
      simp only [CpF] at h
      obtain ⟨X', SB', eb', es', rfl, hX', hB', hb', h⟩ := h
      exact ⟨X', SB', eb', es' ++ [_], rfl, hX', hB', hb', CpF.snoc hX hB hb h⟩
def FcOk (f : Fc) : Prop := f.nm.size ≤ 281474976710656 ∧ (∀ p ∈ f.ps, p.size ≤ 281474976710656) ∧ f.ps.length ≤ 281474976710656 ∧ f.body.length ≤ 281474976710656
theorem IsFcs.nil : IsFcs [] [] := ⟨rfl, fun j f h => by simp at h⟩
theorem IsFcs.cons {f : Fc} {fs : List Fc} {e : AVal} {es : List AVal} (h : IsFc f e) (hs : IsFcs fs es) : IsFcs (f :: fs) (e :: es) where
 len := by simp [hs.len]
 at' := fun j g hj => by
  cases j with
  | zero => simp at hj; subst hj; exact ⟨e, rfl, h⟩
  | succ j => simpa using hs.at' j g (by simpa using hj)
theorem CpF.frzN : ∀ (fs : List Fc), (∀ f ∈ fs, FcOk f) → ∃ N, ∀ (τ : AStore) (A : AVal) (es : List AVal), CpF τ A fs es → ∃ us, IsFcs fs us ∧ ∀ M, N ≤ M → mapO (Abs.frz τ M) es = some us
  | [], _ => ⟨0, fun τ A es h => ⟨[], IsFcs.nil, fun M _ => by simp only [CpF] at h; subst h; rfl⟩⟩
  | f :: fs, hf => by
      obtain ⟨N1, h1⟩ := CpF.frzN fs (fun g hg => hf g (by simp [hg]))
      obtain ⟨N2, h2⟩ := IsSts.frzN f.body
      obtain ⟨q1, q2, q3, q4⟩ := hf f (by simp)
      refine ⟨N1 + N2 + 4, fun τ A es h => ?_⟩
      simp only [CpF] at h
      obtain ⟨X, SB, eb, es', rfl, hX, hB, hb, h⟩ := h
      obtain ⟨us, u1, u2⟩ := h1 τ A es' h
      have key : ∃ X', IsD 1 X' (f.ps.map sA) ∧ ∀ M, 3 ≤ M → Abs.frz τ M X = some X' := by
        have hps : ∀ M, 1 ≤ M → mapO (Abs.frz τ M) (f.ps.map sA) = some (f.ps.map sA) := by
          intro M hM
          obtain ⟨M, rfl⟩ : ∃ k, M = k + 1 := ⟨M - 1, by omega⟩
          induction f.ps with
          | nil => rfl
          | cons p ps ih => rw [List.map_cons, mapO_cons', ih]; rfl
        rcases hX with hX | ⟨b, rfl, hg, _⟩
        · refine ⟨X, hX, fun M hM => ?_⟩
          obtain ⟨M, rfl⟩ : ∃ k, M = k + 1 := ⟨M - 1, by omega⟩
          exact hX.frzN (hps M (by omega))
        · refine ⟨.data 1 false (f.ps.map sA), .inr ⟨_, rfl⟩, fun M hM => ?_⟩
          obtain ⟨M, rfl⟩ : ∃ k, M = k + 1 := ⟨M - 1, by omega⟩
          rw [frz_slice, hg, frzS_cells (by simp), List.drop_zero, List.take_of_length_le (by simp), hps M (by omega)]; rfl
      obtain ⟨X', hX', hfX⟩ := key
      refine ⟨.agg [.sc (.string f.nm), X', SB] :: us, IsFcs.cons ⟨X', SB, eb, rfl, hX', hB, hb, q1, q2, q3, by rw [hb.len]; exact q4⟩ u1, fun M hM => ?_⟩
      obtain ⟨M, rfl⟩ : ∃ k, M = k + 2 := ⟨M - 2, by omega⟩
      rw [mapO_cons', frz_agg, mapO_cons', mapO_cons', mapO_cons', mapO_nil', hfX (M + 1) (by omega), hB.frzN (h2 eb τ M hb (by omega)), u2 _ (by omega)]
      rfl
def IsF3 (fs : List Fc) (r : AVal) : Prop := ∃ us, IsD 3 r us ∧ IsFcs fs us
theorem copiedFC {fs : List Fc} {w : WD} {L : AVal} {els : List AVal} (hL : IsD 3 L els) (hl : IsFcs fs els) (hlen : fs.length ≤ 1000000) (hb : nodesF fs ≤ 1000000) (hps : ∀ f ∈ fs, f.ps.length ≤ 1000000) :
  Gives (EE w) 8 [L] (IsF3 fs) := by
 have hll := hl.len
 have hLn := fun σ : AStore => hL.lenN hll (σ := σ)
 have hok : ∀ f ∈ fs, FcOk f := fun f hf => by
  obtain ⟨j, hj⟩ := List.getElem?_of_mem hf
  obtain ⟨e, _, SP, SB, eb, rfl, hP, hB, hb', h1, h2, h3, h4⟩ := hl.at' j f hj
  exact ⟨h1, h2, h3, by rw [← hb'.len]; exact h4⟩
 obtain ⟨N, hN⟩ := CpF.frzN fs hok
 refine Gives.of (fun _ => .sc _) (.cons _ _ (hL.wf hl.wf) .nil) (N + 3) ?_
 refine of_8 rfl rfl rfl (by kernel_rfl) ?_
 simp -implicitDefEqProofs only [go_sem]
 refine vlp (ι := AVal × Nat) (fun p => [(0, L), (3, p.1), (4, (.sc (.int .i64 (p.2))))]) (fun p τ => p.2 ≤ fs.length ∧ ∃ es, CpF τ p.1 (fs.take p.2) es ∧ Own τ 3 p.1 es) (fun p => fs.length - p.2) (fun _ => rfl) ((.sc (.slice none 0 0)), 0) ?_ ?_ ?_
 ·(repeat' (first | exact trivial | refine ⟨rfl, ?_⟩))
 ·exact ⟨Nat.zero_le _, [], rfl, Own.nil⟩
 rintro ⟨A, j⟩ τ ⟨hj, es, hes, hA⟩
 simp only at hj hes hA
 have kA := hA.fit
 have cA := hA.cells
 have iA := hA.isCell
 simp -implicitDefEqProofs only [go_sem, hLn]
 ((first | refine vz2 ?_ ?_ | refine vz3 ?_ ?_) <;> intro hlt)
 ·obtain ⟨f, hf⟩ : ∃ f, fs[j]? = some f := ⟨fs[j]'(by omega), by simp⟩
  obtain ⟨e, he, hfe⟩ := hl.at' j f hf
  have hpf := hps f (List.mem_of_getElem? hf)
  have htk : fs.take (j + 1) = fs.take j ++ [f] := by rw [List.take_add_one, hf]; rfl
  have hbf : nodesSs f.body ≤ 1000000 := by
   have h1 := nodesF_take1 fs hf
   have h2 := nodesF_le (l := fs) (i := j + 1)
   omega
  have hel : es.length = j := by rw [hes.len, List.length_take]; omega
  obtain ⟨SP, SB, eb, rfl, hP, hB, hb', h1, h2, h3, h4⟩ := hfe
  have kP := hP.fit
  have cP := hP.cells
  have iP := hP.isCell
  have kB := hB.fit
  have cB := hB.cells
  have iB := hB.isCell
  have hsP := fun σ : AStore => hP.src (σ := σ)
  have hw := wrapS (i := j) (by omega)
  (repeat' first | ((first | refine vy1 ?_ ?_ | refine vy2 ?_ ?_ | refine vy3 ?_ ?_) <;> rintro ⟨hd, hq⟩ <;> first | (exfalso; omega) | simp -implicitDefEqProofs only [go_sem, hd] | skip) | refine vzt ?_ | refine vzf ?_ | refine vsb ?_ | refine vzb ?_ | refine vzq ?_ | simp -implicitDefEqProofs only [go_sem])
  ((try (refine Z_seq ?_; (try simp -implicitDefEqProofs only [go_sem]))); refine Z_draw (by kernel_rfl) [0, 1, 2, 3, 4, 5, 6, 7, 8, 9, 10, 11, 13, 14, 15, 16, 17, 12, 18, 19, 20, 21, 22] [(22, 4194303), (21, 2097151), (20, 1048574), (19, 524286), (18, 262080), (12, 4032), (17, 122880), (16, 57344), (15, 24576), (14, 0), (13, 0), (11, 1920), (10, 896), (9, 384), (8, 0), (7, 0), (6, 0), (5, 30), (4, 14), (3, 6), (2, 0), (1, 0), (0, 0)] (by kernel_rfl) (by kernel_rfl) ?_)
  cases hpc : f.ps with
  | nil =>
   rw [hpc] at hsP hP
   simp -implicitDefEqProofs only [go_sem, hL.idx he, kP, cP, iP, kB, cB, iB, hsP, List.map_nil, app_lit0]
   refine (copiesC (Nat.le_refl _) hB hb' h4 hbf).useE ?_
   rintro SB' ⟨eb', hB2, hb2⟩
   have kB' := hB2.fit
   have cB' := hB2.cells
   have iB' := hB2.isCell
   refine ⟨by simp -implicitDefEqProofs only [go_sem, hL.idx he, kP, cP, iP, kB, cB, iB, hsP], ?_⟩
   obtain ⟨σ', a1, a2, a3, a4⟩ := hA.append (bytes := 64) (xs := [(.agg [.sc (.string f.nm), .data 1 true [], SB'])]) (by simp) (by simp; omega) (by decide) (by decide) (by unfold Abs.allCells; simp [AVal.cells, AVal.isCell, isCellV]; exact iB')
   rw [show (es ++ [AVal.agg [.sc (.string f.nm), .data 1 true [], SB']]).length = j + 1 by simp [hel]] at a1 a2
   simp -implicitDefEqProofs only [go_sem, kA, cA, iA, kB', cB', iB', a1, hw]
   refine ⟨(.slice τ.next 0 (j + 1), j + 1), by dsimp only; omega, ⟨by dsimp only; omega, _, ?_, a2⟩, by (repeat' (first | exact trivial | refine ⟨rfl, ?_⟩))⟩
   rw [htk]
   refine CpF.snoc (.inl (.inr ⟨true, by rw [hpc]; rfl⟩)) hB2 hb2 (hes.mono fun b y hg hn => ⟨a4 b y hg hn, fun l hl => ?_⟩)
   have := AStore.lt_of_get hg
   dsimp only at hl
   injection hl; omega
  | cons y ys =>
   rw [hpc] at hsP hP
   have e1 := app_lit (sz := 1) (bytes := 16) (y := sA y) (ys := ys.map sA) (σ := τ) (by rw [hpc] at hpf; simp only [List.length_map, List.length_cons] at hpf ⊢; omega) (by decide)
   rw [List.length_map] at e1
   simp -implicitDefEqProofs only [go_sem, hL.idx he, kP, cP, iP, kB, cB, iB, hsP, List.map_cons, e1]
   refine (copiesC (Nat.le_refl _) hB hb' h4 hbf).useE ?_
   rintro SB' ⟨eb', hB2, hb2⟩
   have kB' := hB2.fit
   have cB' := hB2.cells
   have iB' := hB2.isCell
   refine ⟨by simp -implicitDefEqProofs only [go_sem, hL.idx he, kP, cP, iP, kB, cB, iB, hsP], ?_⟩
   obtain ⟨σ', a1, a2, a3, a4⟩ := (hA.alloc (.cells 1 (sA y :: ys.map sA))).append (bytes := 64) (xs := [(.agg [.sc (.string f.nm), .slice τ.next 0 (ys.length + 1), SB'])]) (by simp) (by simp; omega) (by decide) (by decide) (by unfold Abs.allCells; simp [AVal.cells, AVal.isCell, isCellV]; exact iB')
   rw [show (es ++ [AVal.agg [.sc (.string f.nm), .slice τ.next 0 (ys.length + 1), SB']]).length = j + 1 by simp [hel]] at a1 a2
   simp only [alloc_next] at a1 a2
   simp -implicitDefEqProofs only [go_sem, kA, cA, iA, kB', cB', iB', a1, hw]
   refine ⟨(.slice (τ.next + 1) 0 (j + 1), j + 1), by dsimp only; omega, ⟨by dsimp only; omega, _, ?_, a2⟩, by (repeat' (first | exact trivial | refine ⟨rfl, ?_⟩))⟩
   rw [htk]
   refine CpF.snoc (.inr ⟨τ.next, by rw [hpc]; rfl, ?_, ?_⟩) hB2 hb2 (hes.mono fun b y hg hn => ⟨a4 b y (get_alloc_old hg) hn, fun l hl => ?_⟩)
   ·rw [hpc]
    refine a4 _ _ (by rw [AStore.get_alloc, if_pos rfl]; rfl) fun l hl => ?_
    subst hl
    rcases hA with ⟨_, h⟩ | ⟨_, b, hb, hg⟩
    ·cases h
    ·injection hb with q1; subst q1
     have := AStore.lt_of_get hg; omega
   ·intro l hl
    dsimp only at hl
    injection hl; omega
   ·have := AStore.lt_of_get hg
    dsimp only at hl
    injection hl; omega
 ·obtain rfl : j = fs.length := by omega
  rw [List.take_length] at hes
  (repeat' first | ((first | refine vy1 ?_ ?_ | refine vy2 ?_ ?_ | refine vy3 ?_ ?_) <;> rintro ⟨hd, hq⟩ <;> first | (exfalso; omega) | simp -implicitDefEqProofs only [go_sem, hd] | skip) | refine vzt ?_ | refine vzf ?_ | refine vsb ?_ | refine vzb ?_ | refine vzq ?_ | simp -implicitDefEqProofs only [go_sem])
  obtain ⟨us, u1, u2⟩ := hN _ _ _ hes
  refine ⟨_, if es = [] then (.sc (.slice none 0 0)) else .data 3 false us, rfl, hA.frz (n := N + 2) (u2 _ (by omega)), us, ?_, u1⟩
  split
  ·rename_i he
   subst he
   have : us = [] := by have := u2 N (Nat.le_refl _); cases this; rfl
   subst this
   exact .inl ⟨rfl, _, _, rfl⟩
  ·exact .inr ⟨_, rfl⟩
theorem la_cons {α : Type} {a : α} {l m : List α} : List.append (a :: l) m = a :: List.append l m := rfl
theorem la_nil {α : Type} {m : List α} : List.append [] m = m := rfl
theorem sameSStep {xs : List St} {w : WD} {L L' : AVal} {els els' : List AVal} (hL : IsD 8 L els) (hx : IsSts xs els) (hL' : IsD 8 L' els') (hx' : IsSts xs els') (hlen : els.length ≤ 281474976710656)
  (rec : ∀ x ∈ xs, ∀ (ys : List St), (∀ k nm v b e, x = .mk k nm v b e → ys = b ∨ ys = e) → ∀ (w : WD) (L L' : AVal) (els els' : List AVal), IsD 8 L els → IsSts ys els → IsD 8 L' els' → IsSts ys els' → els.length ≤ 281474976710656 →
   GivesV (EE w) 31 [L, L'] (.sc (.bool (true)))) : GivesV (EE w) 31 [L, L'] (.sc (.bool (true))) := by
 have hln := hx.len
 have hLn := fun σ : AStore => hL.lenN hln (σ := σ)
 have hln' := hx'.len
 have hLn' := fun σ : AStore => hL'.lenN hln' (σ := σ)
 refine GivesV.of (fun _ => .sc _) (.cons _ _ (hL.wf hx.wf) (.cons _ _ (hL'.wf hx'.wf) .nil)) 1 ?_
 refine of_31 rfl rfl rfl (by kernel_rfl) ?_
 simp -implicitDefEqProofs only [go_sem]
 refine vlp (ι := Nat) (fun j => [(0, L), (1, L'), (5, (.sc (.int .i64 (j))))]) (fun j _ => j ≤ xs.length) (fun j => xs.length - j) (fun _ => rfl) 0 ?_ ?_ ?_
 ·(repeat' (first | exact trivial | refine ⟨rfl, ?_⟩))
 ·exact Nat.zero_le _
 rintro j τ hj
 by_cases hlt : (j : Int) < (xs.length : Int)
 ·obtain ⟨x, hx1⟩ : ∃ x, xs[j]? = some x := ⟨xs[j]'(by omega), by simp⟩
  obtain ⟨e, he, hxe⟩ := hx.at hx1
  obtain ⟨e', he', hxe'⟩ := hx'.at hx1
  have hmem := List.mem_of_getElem? hx1
  obtain ⟨k, nm, v, body, els2⟩ := x
  simp only [IsSt] at hxe hxe'
  obtain ⟨SA, SB, SE, ea, eb, ee, rfl, hA, ha, hB, hb, hE, hee, h1, h2, h3, h4, h5, h6, h7, h8⟩ := hxe
  obtain ⟨SA', SB', SE', ea', eb', ee', rfl, hA', ha', hB', hb', hE', hee', _, _, _, _, _, q6, q7, q8⟩ := hxe'
  have hvx := ex_of hA ha h2 h3 h5 h6
  have hvx' := ex_of hA' ha' h2 h3 h5 q6
  have kA := hA.fit
  have cA := hA.cells
  have iA := hA.isCell
  have kA' := hA'.fit
  have cA' := hA'.cells
  have iA' := hA'.isCell
  have hw := wrapS (i := j) (by omega)
  have kk : decide (k = k) = true := dct rfl
  have kn : decide (nm = nm) = true := dct rfl
  have hse := sameE_self v
  simp -implicitDefEqProofs only [go_sem, hLn, hLn', dct hlt]
  (repeat' first | ((first | refine vy1 ?_ ?_ | refine vy2 ?_ ?_ | refine vy3 ?_ ?_) <;> rintro ⟨hd, hq⟩ <;> first | (exfalso; omega) | simp -implicitDefEqProofs only [go_sem, hd] | skip) | refine vzt ?_ | refine vzf ?_ | refine vsb ?_ | refine vzb ?_ | refine vzq ?_ | simp -implicitDefEqProofs only [go_sem, hLn, hLn', dct hlt])
  ((try (refine Z_seq ?_; (try simp -implicitDefEqProofs only [go_sem]))); refine Z_draw (by kernel_rfl) (0 :: 1 :: 2 :: 3 :: 4 :: 5 :: 6 :: 7 :: 8 :: 9 :: 10 :: 11 :: 12 :: 13 :: 14 :: 15 :: 16 :: 17 :: 18 :: 19 :: 20 :: 21 :: 22 :: 23 :: 24 :: 25 :: 26 :: 27 :: 28 :: 29 :: 30 :: 31 :: 32 :: 33 :: 34 :: 35 :: 36 :: 37 :: 38 :: 39 :: 40 :: 41 :: 42 :: 43 :: 44 :: 45 :: 46 :: 47 :: 48 :: 49 :: 50 :: 51 :: 52 :: 53 :: 54 :: 55 :: 56 :: 57 :: 58 :: 59 :: 60 :: 61 :: 62 :: 63 :: 64 :: 65 :: []) ((65, 36893488147419103231) :: (64, 18446744073709551615) :: (63, 9223372036854775807) :: (62, 4332462841530417151) :: (61, 2026619832316723199) :: (60, 873698327709876223) :: (59, 9007199254740991) :: (58, 9007199254740991) :: (57, 144115188075855871) :: (56, 72057594037927935) :: (55, 36028797018963967) :: (54, 9007199254740991) :: (53, 9007199254740991) :: (52, 4503599627370495) :: (51, 2251799813685247) :: (50, 1125899906842623) :: (49, 562949953421311) :: (48, 264432546480127) :: (47, 123695058124799) :: (46, 53326313947135) :: (45, 549755813887) :: (44, 549755813887) :: (43, 8796093022207) :: (42, 4398046511103) :: (41, 2199023255551) :: (40, 549755813887) :: (39, 549755813887) :: (38, 274877906943) :: (37, 137438953471) :: (36, 68719476735) :: (35, 34359738367) :: (34, 16139681791) :: (33, 7549747199) :: (32, 3254779903) :: (31, 33554431) :: (30, 33554431) :: (29, 536870911) :: (28, 268435455) :: (27, 134217727) :: (26, 33554431) :: (25, 33554431) :: (24, 16777215) :: (23, 8388607) :: (22, 4194303) :: (21, 1970175) :: (20, 921599) :: (19, 397311) :: (18, 4095) :: (17, 4095) :: (16, 65535) :: (15, 32767) :: (14, 16383) :: (13, 4095) :: (12, 4095) :: (11, 2047) :: (10, 1023) :: (9, 480) :: (8, 224) :: (7, 96) :: (6, 0) :: (5, 0) :: (4, 15) :: (3, 7) :: (2, 3) :: (1, 0) :: (0, 0) :: []) (by kernel_rfl) (by kernel_rfl) ?_)
  simp only [la_cons, la_nil]
  simp -implicitDefEqProofs only [go_sem, hL.idx he, hL'.idx he', ba_list, kk, kn, kA, cA, iA, kA', cA', iA']
  refine (sameRC hvx hvx').useD ?_
  simp -implicitDefEqProofs only [go_sem, hse, hL.idx he, hL'.idx he', ba_list, kk, kn, kA, cA, iA, kA', cA', iA']
  refine (rec _ hmem body (fun _ _ _ _ _ h => by cases h; exact .inl rfl) _ SB SB' eb eb' hB hb hB' hb' h7).useD ?_
  simp -implicitDefEqProofs only [go_sem, hL.idx he, hL'.idx he', ba_list, kk, kn, kA, cA, iA, kA', cA', iA']
  refine (rec _ hmem els2 (fun _ _ _ _ _ h => by cases h; exact .inr rfl) _ SE SE' ee ee' hE hee hE' hee' h8).useD ?_
  simp -implicitDefEqProofs only [go_sem]
  (try refine vzf ?_)
  (repeat' first | ((first | refine vy1 ?_ ?_ | refine vy2 ?_ ?_ | refine vy3 ?_ ?_) <;> rintro ⟨hd, hq⟩ <;> first | (exfalso; omega) | simp -implicitDefEqProofs only [go_sem, hd] | skip) | refine vzt ?_ | refine vzf ?_ | refine vsb ?_ | refine vzb ?_ | refine vzq ?_ | simp -implicitDefEqProofs only [go_sem, hw])
  exact ⟨j + 1, by dsimp only; omega, by dsimp only; omega, by (repeat' (first | exact trivial | refine ⟨rfl, ?_⟩))⟩
 ·simp -implicitDefEqProofs only [go_sem, hLn, hLn', dcf hlt]
  (repeat' first | ((first | refine vy1 ?_ ?_ | refine vy2 ?_ ?_ | refine vy3 ?_ ?_) <;> rintro ⟨hd, hq⟩ <;> first | (exfalso; omega) | simp -implicitDefEqProofs only [go_sem, hd] | skip) | refine vzt ?_ | refine vzf ?_ | refine vsb ?_ | refine vzb ?_ | refine vzq ?_ | simp -implicitDefEqProofs only [go_sem, hLn, hLn', dcf hlt])
  all_goals exact ret_bool (by first | rfl | exact dct (by omega) | simp)
theorem sameSC : ∀ {N : Nat} {xs : List St} {w : WD} {L L' : AVal} {els els' : List AVal}, nodesSs xs ≤ N → IsD 8 L els → IsSts xs els → IsD 8 L' els' → IsSts xs els' → els.length ≤ 281474976710656 → GivesV (EE w) 31 [L, L'] (.sc (.bool (true)))
  | 0, xs, w, L, L', els, els', hN, hL, hx, hL', hx', hl => sameSStep hL hx hL' hx' hl fun x hx => by
      obtain ⟨j, hj⟩ := List.getElem?_of_mem hx
      have h1 := nodesS_at hj
      obtain ⟨k, nm, v, b, e⟩ := x
      have := nodesE_pos v
      simp only [nodesS] at h1
      omega
  | N + 1, xs, w, L, L', els, els', hN, hL, hx, hL', hx', hl => sameSStep hL hx hL' hx' hl fun x hx ys hy w L L' els els' a b c d e' => by
      obtain ⟨j, hj⟩ := List.getElem?_of_mem hx
      have h1 := nodesS_at hj
      obtain ⟨k, nm, v, b, e⟩ := x
      have := nodesE_pos v
      simp only [nodesS] at h1
      rcases hy _ _ _ _ _ rfl with rfl | rfl
      · exact sameSC (N := N) (by omega) a (by assumption) c d e'
      · exact sameSC (N := N) (by omega) a (by assumption) c d e'
theorem sameFC {fs : List Fc} {w : WD} {L L' : AVal} {els els' : List AVal} (hL : IsD 3 L els) (hl : IsFcs fs els) (hL' : IsD 3 L' els') (hl' : IsFcs fs els') (hlen : els.length ≤ 281474976710656) :
  GivesV (EE w) 13 [L, L'] (.sc (.bool (true))) := by
 have hln := hl.len
 have hLn := fun σ : AStore => hL.lenN hln (σ := σ)
 have hln' := hl'.len
 have hLn' := fun σ : AStore => hL'.lenN hln' (σ := σ)
 refine GivesV.of (fun _ => .sc _) (.cons _ _ (hL.wf hl.wf) (.cons _ _ (hL'.wf hl'.wf) .nil)) 1 ?_
 refine of_13 rfl rfl rfl (by kernel_rfl) ?_
 simp -implicitDefEqProofs only [go_sem]
 refine vlp (ι := Nat) (fun j => [(0, L), (1, L'), (5, (.sc (.int .i64 (j))))]) (fun j _ => j ≤ fs.length) (fun j => fs.length - j) (fun _ => rfl) 0 ?_ ?_ ?_
 ·(repeat' (first | exact trivial | refine ⟨rfl, ?_⟩))
 ·exact Nat.zero_le _
 rintro j τ hj
 by_cases hlt : (j : Int) < (fs.length : Int)
 ·obtain ⟨f, hf⟩ : ∃ f, fs[j]? = some f := ⟨fs[j]'(by omega), by simp⟩
  obtain ⟨e, he, hfe⟩ := hl.at' j f hf
  obtain ⟨e', he', hfe'⟩ := hl'.at' j f hf
  obtain ⟨SP, SB, eb, rfl, hP, hB, hb, h1, h2, h3, h4⟩ := hfe
  obtain ⟨SP', SB', eb', rfl, hP', hB', hb', _, _, q3, q4⟩ := hfe'
  have hw := wrapS (i := j) (by omega)
  have kn : decide (f.nm = f.nm) = true := dct rfl
  have kp : decide (f.ps = f.ps) = true := dct rfl
  simp -implicitDefEqProofs only [go_sem, hLn, hLn', dct hlt]
  (repeat' first | ((first | refine vy1 ?_ ?_ | refine vy2 ?_ ?_ | refine vy3 ?_ ?_) <;> rintro ⟨hd, hq⟩ <;> first | (exfalso; omega) | simp -implicitDefEqProofs only [go_sem, hd] | skip) | refine vzt ?_ | refine vzf ?_ | refine vsb ?_ | refine vzb ?_ | refine vzq ?_ | simp -implicitDefEqProofs only [go_sem, hLn, hLn', dct hlt])
  ((try (refine Z_seq ?_; (try simp -implicitDefEqProofs only [go_sem]))); refine Z_draw (by kernel_rfl) [0, 1, 2, 3, 4, 5, 6, 7, 8, 9, 10, 11, 12, 13, 14, 15, 16, 17, 18, 19, 20, 21, 22, 23, 24, 25, 26, 27, 28, 29, 30, 31, 32, 33, 34, 35, 36, 37, 38] [(38, 274877906943), (37, 137438953471), (36, 68719476735), (35, 32279363583), (34, 15099494399), (33, 6509559807), (32, 67108863), (31, 67108863), (30, 1073741823), (29, 536870911), (28, 268435455), (27, 67108863), (26, 67108863), (25, 33554431), (24, 16777215), (23, 8388607), (22, 4194303), (21, 1970175), (20, 921599), (19, 397311), (18, 4095), (17, 4095), (16, 65535), (15, 32767), (14, 16383), (13, 4095), (12, 4095), (11, 2047), (10, 1023), (9, 480), (8, 224), (7, 96), (6, 0), (5, 0), (4, 15), (3, 7), (2, 3), (1, 0), (0, 0)] (by kernel_rfl) (by kernel_rfl) ?_)
  simp -implicitDefEqProofs only [go_sem, hL.idx he, hL'.idx he', ba_list, kn]
  refine (sameNamesRC hP hP' h3 q3).useD ?_
  simp -implicitDefEqProofs only [go_sem, hL.idx he, hL'.idx he', ba_list, kn, kp]
  refine (sameSC (Nat.le_refl _) hB hb hB' hb' h4).useD ?_
  simp -implicitDefEqProofs only [go_sem]
  (try refine vzf ?_)
  (repeat' first | ((first | refine vy1 ?_ ?_ | refine vy2 ?_ ?_ | refine vy3 ?_ ?_) <;> rintro ⟨hd, hq⟩ <;> first | (exfalso; omega) | simp -implicitDefEqProofs only [go_sem, hd] | skip) | refine vzt ?_ | refine vzf ?_ | refine vsb ?_ | refine vzb ?_ | refine vzq ?_ | simp -implicitDefEqProofs only [go_sem, hw])
  exact ⟨j + 1, by dsimp only; omega, by dsimp only; omega, by (repeat' (first | exact trivial | refine ⟨rfl, ?_⟩))⟩
 ·simp -implicitDefEqProofs only [go_sem, hLn, hLn', dcf hlt]
  (repeat' first | ((first | refine vy1 ?_ ?_ | refine vy2 ?_ ?_ | refine vy3 ?_ ?_) <;> rintro ⟨hd, hq⟩ <;> first | (exfalso; omega) | simp -implicitDefEqProofs only [go_sem, hd] | skip) | refine vzt ?_ | refine vzf ?_ | refine vsb ?_ | refine vzb ?_ | refine vzq ?_ | simp -implicitDefEqProofs only [go_sem, hLn, hLn', dcf hlt])
  all_goals exact ret_bool (by first | rfl | exact dct (by omega) | simp)
theorem mapO_app {f : AVal → Option AVal} : ∀ {a b : List AVal} {c d : List AVal}, mapO f a = some c → mapO f b = some d → mapO f (a ++ b) = some (c ++ d)
  | [], b, c, d, h, h2 => by cases h; exact h2
  | x :: a, b, c, d, h, h2 => by
      obtain ⟨y, ys, h1, h3, rfl⟩ := mapO_cons h
      rw [List.cons_append, mapO_cons', h1, mapO_app h3 h2]; rfl
/-- A call that is lent a list of names among data. -/
theorem lentM {E : Env} (hG : ∀ g, WF 0 (E.G g)) {f : FuncId} {σ : AStore} {M : AVal} {g : List ByteArray} {pre post : List AVal} {v : AVal} (hv : ∃ N, frz empty N v = some v ∧ (∀ τ, frz τ N v = some v ∧ ownV τ N v = true)) (hM : HasO σ M g) (dp : Dats pre) (dq : Dats post)
  (h : ∀ M', IsD 1 M' (g.map sA) → GivesV E f (pre ++ M' :: post) v) : ACalls E f (pre ++ M :: post) σ fun e σ' => σ' = σ ∧ e = .ret v := by
 obtain ⟨N, _, hN⟩ := hv
 rcases hM with hM | ⟨b, rfl, hb⟩
 ·exact h M hM σ
 ·obtain ⟨N1, h1⟩ := Dats.frz (σ := σ.only [b]) dp
  obtain ⟨N2, h2⟩ := Dats.frz (σ := σ.only [b]) dq
  obtain ⟨N4, h4⟩ := Dats.frz (σ := σ.only [b]) (dats_sA g)
  have hs : Abs.frz (σ.only [b]) (N1 + N2 + N4 + 1) (.slice b 0 g.length) = some (.data 1 false (g.map sA)) := by
   rw [frz_slice, only_self hb, frzS_cells (by simp), List.drop_zero, List.take_of_length_le (by simp), h4 _ (by omega)]; rfl
  refine (ACalls.pureT hG (N := N) (h (.data 1 false (g.map sA)) (.inr ⟨false, rfl⟩) empty) ?_ σ (bs := [b]) (M := N1 + N2 + N4 + 1) (mapO_app (h1 _ (by omega)) (by rw [mapO_cons', hs, h2 _ (by omega)]; rfl))).mono ?_
  ·rintro e σ0 ⟨rfl, rfl⟩
   exact ⟨.ret v, by simp [frzE, (hN _).1], (hN _).2⟩
  ·rintro e σ' ⟨h1, e0, σ0, ⟨rfl, rfl⟩, h3⟩
   simp only [frzE, (hN _).1, Option.map_some, Option.some.injEq] at h3
   exact ⟨h1, h3.symm⟩
theorem lawFinds {w : WD} {x : Ex} {g : List ByteArray} {fs : List Fc} {X S L : AVal} {els : List AVal} (hX : IsEx x X) (hS : IsD 1 S (g.map sA)) (lg : g.length ≤ 281474976710656) (hs : ∀ s ∈ g, s.size ≤ 281474976710656)
  (hL : IsD 3 L els) (hl : IsFcs fs els) (hlen : els.length ≤ 281474976710656) (awake : ∀ w : World, Gives (EE ⟨w, []⟩) 6 [] fun v => v = .sc (.bool true)) :
  ACalls (EE w) 3 [X, S, L] empty fun e _ => e = .ret (.sc (.bool true)) := by
 obtain ⟨c1, c2, c3⟩ := hX.isA.facts
 have cc := hX.cellsOk
 have hfit : X.fit = true := by obtain ⟨cs, rfl, _⟩ := hX.isA; rfl
 have hll := hl.len
 refine of_3 rfl rfl rfl (by kernel_rfl) ?_
 simp -implicitDefEqProofs only [go_sem, c1, c2, c3, cc, hfit]
 have g0 : (empty.alloc (.cells 4 [X])).get 0 = some (.cells 4 [X]) := by rw [AStore.get_alloc]; rfl
 generalize empty.alloc (.cells 4 [X]) = τ at g0 ⊢
 refine (awake _).use ?_
 rintro _ rfl
 (repeat' first | ((first | refine vy1 ?_ ?_ | refine vy2 ?_ ?_ | refine vy3 ?_ ?_) <;> rintro ⟨hd, hq⟩ <;> first | (exfalso; omega) | simp -implicitDefEqProofs only [go_sem, hd] | skip) | refine vzt ?_ | refine vzf ?_ | refine vsb ?_ | refine vzb ?_ | refine vzq ?_ | simp -implicitDefEqProofs only [go_sem, g0, c1, c2, c3, cc, hfit])
 refine (beyondC hX hS lg hs hL hl hlen).use ?_
 cases hb : beyondB x g fs with
 | true =>
  (repeat' first | ((first | refine vy1 ?_ ?_ | refine vy2 ?_ ?_ | refine vy3 ?_ ?_) <;> rintro ⟨hd, hq⟩ <;> first | (exfalso; omega) | simp -implicitDefEqProofs only [go_sem, hd] | skip) | refine vzt ?_ | refine vzf ?_ | refine vsb ?_ | refine vzb ?_ | refine vzq ?_ | simp -implicitDefEqProofs only [go_sem, hb])
 | false =>
  obtain ⟨b1, b2, b3, b4, b5⟩ := beyond_not hb
  (repeat' first | ((first | refine vy1 ?_ ?_ | refine vy2 ?_ ?_ | refine vy3 ?_ ?_) <;> rintro ⟨hd, hq⟩ <;> first | (exfalso; omega) | simp -implicitDefEqProofs only [go_sem, hd] | skip) | refine vzt ?_ | refine vzf ?_ | refine vsb ?_ | refine vzb ?_ | refine vzq ?_ | simp -implicitDefEqProofs only [go_sem, hb])
  refine (copiedFC hL hl (by omega) (by omega) (fun f hf => by have := b5 f hf; omega)).use ?_
  rintro L' ⟨els', hL', hl'⟩
  have hsrc := fun σ : AStore => hS.src (σ := σ)
  have hlen' : els'.length ≤ 281474976710656 := by rw [hl'.len]; omega
  have hpos := AStore.lt_of_get g0
  have vi : ∀ i : Int, ∃ N, frz empty N (.sc (.int .i64 (i))) = some (.sc (.int .i64 (i))) ∧ (∀ τ, frz τ N (.sc (.int .i64 (i))) = some (.sc (.int .i64 (i))) ∧ ownV τ N (.sc (.int .i64 (i))) = true) := fun i => ⟨1, rfl, fun _ => ⟨rfl, rfl⟩⟩
  have vb : ∀ i : Bool, ∃ N, frz empty N (.sc (.bool (i))) = some (.sc (.bool (i))) ∧ (∀ τ, frz τ N (.sc (.bool (i))) = some (.sc (.bool (i))) ∧ ownV τ N (.sc (.bool (i))) = true) := fun i => ⟨1, rfl, fun _ => ⟨rfl, rfl⟩⟩
  have vt : ∀ i j : Int, ∃ N, frz empty N (.tuple [(.sc (.int .i64 (i))), (.sc (.int .i64 (j)))]) = some (.tuple [(.sc (.int .i64 (i))), (.sc (.int .i64 (j)))]) ∧ (∀ τ, frz τ N (.tuple [(.sc (.int .i64 (i))), (.sc (.int .i64 (j)))]) = some (.tuple [(.sc (.int .i64 (i))), (.sc (.int .i64 (j)))]) ∧ ownV τ N (.tuple [(.sc (.int .i64 (i))), (.sc (.int .i64 (j)))]) = true) := fun i j => ⟨2, rfl, fun _ => ⟨rfl, rfl⟩⟩
  have kd : ∀ i : Int, decide (i = i) = true := fun i => dct rfl
  have kg : decide (g = g) = true := dct rfl
  have hac : allCells (g.map sA) = true := by
   clear hsrc hS hs lg b2 kg hb
   induction g with
   | nil => rfl
   | cons x g ih => exact ih
  have tail : ∀ (b : Nat) (σ : AStore), σ.get 0 = some (.cells 4 [X]) → σ.get b = some (.cells 1 (g.map sA)) → HasO σ (.slice b 0 g.length) g := fun b σ _ h => .inr ⟨b, rfl, h⟩
  by_cases hg : g = []
  ·subst hg
   simp only [List.map_nil] at hsrc
   (repeat' first | ((first | refine vy1 ?_ ?_ | refine vy2 ?_ ?_ | refine vy3 ?_ ?_) <;> rintro ⟨hd, hq⟩ <;> first | (exfalso; omega) | simp -implicitDefEqProofs only [go_sem, hd] | skip) | refine vzt ?_ | refine vzf ?_ | refine vsb ?_ | refine vzb ?_ | refine vzq ?_ | simp -implicitDefEqProofs only [go_sem, hsrc])
   have g0' : ((τ.alloc (.cells 1 [])).set τ.next (.cells 1 [])).get 0 = some (.cells 4 [X]) := by rw [AStore.get_set, if_neg (by omega)]; exact get_alloc_old g0
   have hM : HasO ((τ.alloc (.cells 1 [])).set τ.next (.cells 1 [])) (.slice τ.next 0 0) [] := .inr ⟨τ.next, rfl, by rw [AStore.get_set, if_pos ⟨rfl, by simp only [alloc_next]; omega⟩]; rfl⟩
   refine (lentM (pre := [L']) (post := []) (fun _ => .sc _) (vt _ _) hM (.cons _ _ (hL'.dat hl'.dat) .nil) .nil (fun M' hM' => tFuncsC hL' hl' hlen' (by omega) hM' lg)).use1 ?_
   (repeat' first | ((first | refine vy1 ?_ ?_ | refine vy2 ?_ ?_ | refine vy3 ?_ ?_) <;> rintro ⟨hd, hq⟩ <;> first | (exfalso; omega) | simp -implicitDefEqProofs only [go_sem, hd] | skip) | refine vzt ?_ | refine vzf ?_ | refine vsb ?_ | refine vzb ?_ | refine vzq ?_ | simp -implicitDefEqProofs only [go_sem])
   refine (refFuncsC hL hl hlen (by omega) hS lg).use ?_
   (repeat' first | ((first | refine vy1 ?_ ?_ | refine vy2 ?_ ?_ | refine vy3 ?_ ?_) <;> rintro ⟨hd, hq⟩ <;> first | (exfalso; omega) | simp -implicitDefEqProofs only [go_sem, hd] | skip) | refine vzt ?_ | refine vzf ?_ | refine vsb ?_ | refine vzb ?_ | refine vzq ?_ | simp -implicitDefEqProofs only [go_sem])
   ((try (refine Z_seq ?_; (try simp -implicitDefEqProofs only [go_sem]))); refine Z_draw (by kernel_rfl) [0, 1, 2, 3, 4, 5, 6, 7, 8, 9, 10, 11, 13, 14, 15, 12, 16, 17, 18, 19, 20, 21, 22, 23, 24, 25, 26, 27, 28, 29] [(29, 536870911), (28, 268435455), (27, 134217727), (26, 33554431), (25, 33554431), (24, 16777215), (23, 8388607), (22, 4194303), (21, 1048575), (20, 1048575), (19, 524287), (18, 262143), (17, 131071), (16, 65535), (12, 4095), (15, 511), (14, 511), (13, 511), (11, 511), (10, 511), (9, 511), (8, 255), (7, 127), (6, 63), (5, 15), (4, 15), (3, 7), (2, 3), (1, 0), (0, 0)] (by kernel_rfl) (by kernel_rfl) ?_)
   simp -implicitDefEqProofs only [go_sem, kd, g0', c1, c2, c3, cc, hfit]
   refine (lentM (pre := [X]) (post := [L']) (fun _ => .sc _) (vi _) hM (.cons _ _ hX.dat .nil) (.cons _ _ (hL'.dat hl'.dat) .nil) (fun M' hM' => tExpTC hX (by omega) hL' hl' hlen' (by omega) hM' lg)).use1D ?_
   simp -implicitDefEqProofs only [go_sem, kd, g0', c1, c2, c3, cc, hfit]
   refine (refExpC hX (by omega) hL hl hlen (by omega) hS lg).useD ?_
   simp -implicitDefEqProofs only [go_sem, kd, g0', c1, c2, c3, cc, hfit]
   refine (sameFC hL' hl' hL hl hlen').useD ?_
   simp -implicitDefEqProofs only [go_sem, kd, g0', c1, c2, c3, cc, hfit]
   refine (lentM (pre := []) (post := [S]) (fun _ => .sc _) (vb _) hM .nil (.cons _ _ (hS.dat (dats_sA _)) .nil) (fun M' hM' => sameStringsC hM' hS lg lg)).use1D ?_
   simp -implicitDefEqProofs only [go_sem, kd, kg]
  ·have hg1 : ¬ g.length ≤ 0 := by cases g with | nil => exact absurd rfl hg | cons _ _ => simp
   have hg2 : g.length * 16 ≤ 140737488355328 := by omega
   (repeat' first | ((first | refine vy1 ?_ ?_ | refine vy2 ?_ ?_ | refine vy3 ?_ ?_) <;> rintro ⟨hd, hq⟩ <;> first | (exfalso; omega) | simp -implicitDefEqProofs only [go_sem, hd] | skip) | refine vzt ?_ | refine vzf ?_ | refine vsb ?_ | refine vzb ?_ | refine vzq ?_ | simp -implicitDefEqProofs only [go_sem, hsrc, hac, hg1, hg2])
   have g0' : (((τ.alloc (.cells 1 [])).del τ.next).alloc (.cells 1 (g.map sA))).get 0 = some (.cells 4 [X]) := by
    refine get_alloc_old ?_
    rw [AStore.get_del, if_neg (by omega)]; exact get_alloc_old g0
   have hM : HasO (((τ.alloc (.cells 1 [])).del τ.next).alloc (.cells 1 (g.map sA))) (.slice (τ.next + 1) 0 g.length) g := .inr ⟨τ.next + 1, rfl, by rw [AStore.get_alloc, if_pos (show τ.next + 1 = ((τ.alloc (.cells 1 [])).del τ.next).next from rfl)]⟩
   refine (lentM (pre := [L']) (post := []) (fun _ => .sc _) (vt _ _) hM (.cons _ _ (hL'.dat hl'.dat) .nil) .nil (fun M' hM' => tFuncsC hL' hl' hlen' (by omega) hM' lg)).use1 ?_
   (repeat' first | ((first | refine vy1 ?_ ?_ | refine vy2 ?_ ?_ | refine vy3 ?_ ?_) <;> rintro ⟨hd, hq⟩ <;> first | (exfalso; omega) | simp -implicitDefEqProofs only [go_sem, hd] | skip) | refine vzt ?_ | refine vzf ?_ | refine vsb ?_ | refine vzb ?_ | refine vzq ?_ | simp -implicitDefEqProofs only [go_sem])
   refine (refFuncsC hL hl hlen (by omega) hS lg).use ?_
   (repeat' first | ((first | refine vy1 ?_ ?_ | refine vy2 ?_ ?_ | refine vy3 ?_ ?_) <;> rintro ⟨hd, hq⟩ <;> first | (exfalso; omega) | simp -implicitDefEqProofs only [go_sem, hd] | skip) | refine vzt ?_ | refine vzf ?_ | refine vsb ?_ | refine vzb ?_ | refine vzq ?_ | simp -implicitDefEqProofs only [go_sem])
   ((try (refine Z_seq ?_; (try simp -implicitDefEqProofs only [go_sem]))); refine Z_draw (by kernel_rfl) [0, 1, 2, 3, 4, 5, 6, 7, 8, 9, 10, 11, 13, 14, 15, 12, 16, 17, 18, 19, 20, 21, 22, 23, 24, 25, 26, 27, 28, 29] [(29, 536870911), (28, 268435455), (27, 134217727), (26, 33554431), (25, 33554431), (24, 16777215), (23, 8388607), (22, 4194303), (21, 1048575), (20, 1048575), (19, 524287), (18, 262143), (17, 131071), (16, 65535), (12, 4095), (15, 511), (14, 511), (13, 511), (11, 511), (10, 511), (9, 511), (8, 255), (7, 127), (6, 63), (5, 15), (4, 15), (3, 7), (2, 3), (1, 0), (0, 0)] (by kernel_rfl) (by kernel_rfl) ?_)
   simp -implicitDefEqProofs only [go_sem, kd, g0', c1, c2, c3, cc, hfit]
   refine (lentM (pre := [X]) (post := [L']) (fun _ => .sc _) (vi _) hM (.cons _ _ hX.dat .nil) (.cons _ _ (hL'.dat hl'.dat) .nil) (fun M' hM' => tExpTC hX (by omega) hL' hl' hlen' (by omega) hM' lg)).use1D ?_
   simp -implicitDefEqProofs only [go_sem, kd, g0', c1, c2, c3, cc, hfit]
   refine (refExpC hX (by omega) hL hl hlen (by omega) hS lg).useD ?_
   simp -implicitDefEqProofs only [go_sem, kd, g0', c1, c2, c3, cc, hfit]
   refine (sameFC hL' hl' hL hl hlen').useD ?_
   simp -implicitDefEqProofs only [go_sem, kd, g0', c1, c2, c3, cc, hfit]
   refine (lentM (pre := []) (post := [S]) (fun _ => .sc _) (vb _) hM .nil (.cons _ _ (hS.dat (dats_sA _)) .nil) (fun M' hM' => sameStringsC hM' hS lg lg)).use1D ?_
   simp -implicitDefEqProofs only [go_sem, kd, kg]
theorem sh24 : shape Try.prog 24 = .struct [3, 9, 2, 22] := by kernel_rfl
theorem sh22 : shape Try.prog 22 = .slice 24 4 true := by kernel_rfl
theorem sh25 : shape Try.prog 25 = .slice 9 1 false := by kernel_rfl
theorem sh26 : shape Try.prog 26 = .slice 38 3 true := by kernel_rfl
theorem sh38 : shape Try.prog 38 = .struct [9, 25, 36] := by kernel_rfl
theorem sh36 : shape Try.prog 36 = .slice 61 8 true := by kernel_rfl
theorem sh61 : shape Try.prog 61 = .struct [3, 9, 24, 36, 36] := by kernel_rfl
theorem sh3 : shape Try.prog 3 = .int .i64 := by kernel_rfl
theorem sh2 : shape Try.prog 2 = .int .i64 := by kernel_rfl
theorem sh9 : shape Try.prog 9 = .str := by kernel_rfl
theorem by24 : Try.prog.bytesOf 24 = 56 := by kernel_rfl
theorem by9 : Try.prog.bytesOf 9 = 16 := by kernel_rfl
theorem by61 : Try.prog.bytesOf 61 = 128 := by kernel_rfl
theorem by38 : Try.prog.bytesOf 38 = 64 := by kernel_rfl
theorem tw_int {P : Program} {n t : Nat} {vs : List AVal} (hs : shape P t = .int .i64) (h : HasTyW P n t vs) : ∃ m, in64 m ∧ vs = [(.sc (.int .i64 (m)))] := by
 cases n with
 | zero => exact h.elim
 | succ n =>
  unfold HasTyW at h
  rw [hs] at h
  obtain ⟨m, hw, h⟩ := h
  refine ⟨m, ?_, h⟩
  have : (Lit.int .i64 m).wf = true := hw
  simp [Lit.wf, IntKind.min, IntKind.max, IntKind.signed, IntKind.bits] at this
  exact ⟨by omega, by omega⟩
theorem tw_str {P : Program} {n t : Nat} {vs : List AVal} (hs : shape P t = .str) (h : HasTyW P n t vs) : ∃ s : ByteArray, s.size ≤ 281474976710656 ∧ vs = [.sc (.string s)] := by
 cases n with
 | zero => exact h.elim
 | succ n =>
  unfold HasTyW at h
  rw [hs] at h
  obtain ⟨s, hw, h⟩ := h
  exact ⟨s, by omega, h⟩
theorem tw_struct {P : Program} {n t : Nat} {ts : List TypeId} {vs : List AVal} (hs : shape P t = .struct ts) (h : HasTyW P (n + 1) t vs) : HasL (HasTyW P n) P ts vs := by
 unfold HasTyW at h
 rw [hs] at h
 exact h
/-- A slice that came in. -/
theorem tw_slice {P : Program} {n t e c by' : Nat} {agg : Bool} {vs : List AVal} (hs : shape P t = .slice e c agg) (hb : P.bytesOf e = by') (h0 : 0 < by') (h : HasTyW P (n + 1) t vs) :
  ∃ (S : AVal) (els : List AVal), vs = [S] ∧ IsD c S els ∧ els.length ≤ 281474976710656 ∧ ∀ x ∈ els, HasTyW P n e x.cells ∧ x.cells.length = c ∧ x.isAgg = agg := by
 unfold HasTyW at h
 rw [hs] at h
 rcases h with h | ⟨a, c, h⟩ | ⟨els, _, _, hlen, h, hels⟩
 ·exact ⟨_, [], h, .inl ⟨rfl, _, _, rfl⟩, by simp, by simp⟩
 ·exact ⟨_, [], h, .inl ⟨rfl, _, _, rfl⟩, by simp, by simp⟩
 ·rw [hb] at hlen
  exact ⟨_, els, h, .inr ⟨_, rfl⟩, by have := Nat.le_mul_of_pos_right els.length h0; omega, hels⟩
theorem names_of {n : Nat} {els : List AVal} (h : ∀ x ∈ els, HasTyW Try.prog n 9 x.cells ∧ x.cells.length = 1 ∧ x.isAgg = false) : ∃ g : List ByteArray, els = g.map sA ∧ ∀ s ∈ g, s.size ≤ 281474976710656 := by
 induction els with
 | nil => exact ⟨[], rfl, by simp⟩
 | cons x els ih =>
  obtain ⟨g, rfl, hg⟩ := ih fun y hy => h y (by simp [hy])
  obtain ⟨h1, _, h2⟩ := h x (by simp)
  obtain ⟨s, hs, he⟩ := tw_str sh9 h1
  have := one_of h2 he
  subst this
  exact ⟨s :: g, rfl, by intro t ht; rcases List.mem_cons.1 ht with rfl | ht; exact hs; exact hg t ht⟩
theorem is_names {n : Nat} {vs : List AVal} (h : HasTyW Try.prog n 25 vs) : ∃ (S : AVal) (g : List ByteArray), vs = [S] ∧ IsD 1 S (g.map sA) ∧ g.length ≤ 281474976710656 ∧ ∀ s ∈ g, s.size ≤ 281474976710656 := by
 cases n with
 | zero => exact h.elim
 | succ n =>
  obtain ⟨S, els, h1, h2, h3, h4⟩ := tw_slice sh25 by9 (by decide) h
  obtain ⟨g, rfl, hg⟩ := names_of h4
  exact ⟨S, g, h1, h2, by rw [List.length_map] at h3; exact h3, hg⟩
theorem is_ex (n : Nat) : (∀ vs, HasTyW Try.prog n 24 vs → ∃ x, IsEx x (.agg vs)) ∧ (∀ vs, HasTyW Try.prog n 22 vs → ∃ S els xs, vs = [S] ∧ IsD 4 S els ∧ IsExs xs els ∧ els.length ≤ 281474976710656) := by
 induction n with
 | zero => exact ⟨fun vs h => h.elim, fun vs h => h.elim⟩
 | succ n ih =>
  constructor
  ·intro vs h
   obtain ⟨a1, r1, rfl, _, h1, a2, r2, rfl, _, h2, a3, r3, rfl, _, h3, a4, r4, rfl, _, h4, h5⟩ := tw_struct sh24 h
   have h5 : r4 = [] := h5
   subst h5
   obtain ⟨k, hk, rfl⟩ := tw_int sh3 h1
   obtain ⟨s, hs, rfl⟩ := tw_str sh9 h2
   obtain ⟨i, hi, rfl⟩ := tw_int sh2 h3
   obtain ⟨S, els, xs, rfl, hS, hx, hl⟩ := ih.2 _ h4
   refine ⟨.mk k s i xs, ?_⟩
   simp only [IsEx]
   exact ⟨S, els, rfl, hS, hx, hk, hi, hs, hl⟩
  ·intro vs h
   obtain ⟨S, els, h1, h2, h3, h4⟩ := tw_slice sh22 by24 (by decide) h
   have key : ∃ xs, IsExs xs els := by
    clear h2 h3
    induction els with
    | nil => exact ⟨[], rfl⟩
    | cons x els ih2 =>
     obtain ⟨xs, hxs⟩ := ih2 fun y hy => h4 y (by simp [hy])
     obtain ⟨g1, _, g2⟩ := h4 x (by simp)
     obtain ⟨y, hy⟩ := ih.1 _ g1
     rw [← agg_of g2 rfl] at hy
     exact ⟨y :: xs, x, els, rfl, hy, hxs⟩
   obtain ⟨xs, hxs⟩ := key
   exact ⟨S, els, xs, h1, h2, hxs, h3⟩
theorem is_st (n : Nat) : (∀ vs, HasTyW Try.prog n 61 vs → ∃ x, IsSt x (.agg vs)) ∧ (∀ vs, HasTyW Try.prog n 36 vs → ∃ S els xs, vs = [S] ∧ IsD 8 S els ∧ IsSts xs els ∧ els.length ≤ 281474976710656) := by
 induction n with
 | zero => exact ⟨fun vs h => h.elim, fun vs h => h.elim⟩
 | succ n ih =>
  constructor
  ·intro vs h
   obtain ⟨a1, r1, rfl, _, h1, a2, r2, rfl, _, h2, a3, r3, rfl, _, h3, a4, r4, rfl, _, h4, a5, r5, rfl, _, h5, h6⟩ := tw_struct sh61 h
   have h6 : r5 = [] := h6
   subst h6
   obtain ⟨k, hk, rfl⟩ := tw_int sh3 h1
   obtain ⟨s, hs, rfl⟩ := tw_str sh9 h2
   obtain ⟨x, hx⟩ := (is_ex n).1 _ h3
   obtain ⟨SB, eb, xb, rfl, hB, hb, hlb⟩ := ih.2 _ h4
   obtain ⟨SE, ee, xe, rfl, hE, he, hle⟩ := ih.2 _ h5
   obtain ⟨ek, en, ei, ez⟩ := x
   simp only [IsEx] at hx
   obtain ⟨SA, ea, hv, hA, ha, hk2, hi2, hn2, hl2⟩ := hx
   injection hv with hv
   subst hv
   refine ⟨.mk k s (.mk ek en ei ez) xb xe, ?_⟩
   simp only [IsSt]
   exact ⟨SA, SB, SE, ea, eb, ee, rfl, hA, ha, hB, hb, hE, he, hk, hk2, hi2, hs, hn2, hl2, hlb, hle⟩
  ·intro vs h
   obtain ⟨S, els, h1, h2, h3, h4⟩ := tw_slice sh36 by61 (by decide) h
   have key : ∃ xs, IsSts xs els := by
    clear h2 h3
    induction els with
    | nil => exact ⟨[], rfl⟩
    | cons x els ih2 =>
     obtain ⟨xs, hxs⟩ := ih2 fun y hy => h4 y (by simp [hy])
     obtain ⟨g1, _, g2⟩ := h4 x (by simp)
     obtain ⟨y, hy⟩ := ih.1 _ g1
     rw [← agg_of g2 rfl] at hy
     exact ⟨y :: xs, x, els, rfl, hy, hxs⟩
   obtain ⟨xs, hxs⟩ := key
   exact ⟨S, els, xs, h1, h2, hxs, h3⟩
theorem is_fc {n : Nat} {vs : List AVal} (h : HasTyW Try.prog (n + 1) 38 vs) : ∃ f, IsFc f (.agg vs) := by
 obtain ⟨a1, r1, rfl, _, h1, a2, r2, rfl, _, h2, a3, r3, rfl, _, h3, h4⟩ := tw_struct sh38 h
 have h4 : r3 = [] := h4
 subst h4
 obtain ⟨s, hs, rfl⟩ := tw_str sh9 h1
 obtain ⟨SP, ps, rfl, hP, hlp, hsp⟩ := is_names h2
 obtain ⟨SB, eb, xb, rfl, hB, hb, hlb⟩ := (is_st n).2 _ h3
 exact ⟨⟨s, ps, xb⟩, SP, SB, eb, rfl, hP, hB, hb, hs, hsp, hlp, hlb⟩
theorem is_fcs {n : Nat} {vs : List AVal} (h : HasTyW Try.prog n 26 vs) : ∃ (S : AVal) (els : List AVal) (fs : List Fc), vs = [S] ∧ IsD 3 S els ∧ IsFcs fs els ∧ els.length ≤ 281474976710656 := by
 cases n with
 | zero => exact h.elim
 | succ n =>
  obtain ⟨S, els, h1, h2, h3, h4⟩ := tw_slice sh26 by38 (by decide) h
  have key : ∃ fs, IsFcs fs els := by
   clear h2 h3
   induction els with
   | nil => exact ⟨[], rfl, fun j f h => by simp at h⟩
   | cons x els ih2 =>
    obtain ⟨xs, hxs⟩ := ih2 fun y hy => h4 y (by simp [hy])
    obtain ⟨g1, _, g2⟩ := h4 x (by simp)
    cases n with
    | zero => exact g1.elim
    | succ n =>
     obtain ⟨y, hy⟩ := is_fc g1
     rw [← agg_of g2 rfl] at hy
     refine ⟨y :: xs, by simp [hxs.len], fun j f hj => ?_⟩
     cases j with
     | zero => simp at hj; subst hj; exact ⟨x, rfl, hy⟩
     | succ j => simpa using hxs.at' j f (by simpa using hj)
  obtain ⟨fs, hfs⟩ := key
  exact ⟨S, els, fs, h1, h2, hfs, h3⟩
end Abs
end
