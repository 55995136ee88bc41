/-
  Functions of the program walked: each is shown to compute a plain function (T28).
-/
import Derived.Test.YtggndcghabholaaFT25
noncomputable section
namespace Abs
set_option linter.unusedSimpArgs false
set_option linter.unusedVariables false
set_option maxRecDepth 100000
set_option maxHeartbeats 16000000
open Go Go.Proofs
theorem formedSs_take {xs : List St} {j : Nat} {x : St} (h : xs[j]? = some x) (h0 : formedSs nameB (xs.take j) = true) (h1 : formedS nameB x = true) : formedSs nameB (xs.take (j + 1)) = true := by
 rw [formedSs_all] at h0 ⊢
 obtain ⟨hj, he⟩ := List.getElem?_eq_some_iff.1 h
 rw [List.take_succ_eq_append_getElem hj, List.all_append, h0, he]
 simp [h1]
theorem formedSs_bad {xs : List St} {j : Nat} {x : St} (h : xs[j]? = some x) (h1 : formedS nameB x = false) : formedSs nameB xs = false := by
 rw [formedSs_all, List.all_eq_false]
 exact ⟨x, List.mem_of_getElem? h, by simp [h1]⟩
theorem formedAllRStep {xs : List St} {w : WD} {L : AVal} {els : List AVal} (hL : IsD 8 L els) (hx : IsSts xs els) (hlen : els.length ≤ 281474976710656)
  (rec : ∀ x ∈ xs, ∀ (ys : List St), (∀ k nm v b e, x = .mk k nm v b e → ys = b ∨ ys = e) → ∀ (w : WD) (L : AVal) (els : List AVal), IsD 8 L els → IsSts ys els → els.length ≤ 281474976710656 →
   GivesV (EE w) 46 [L] (.sc (.bool (formedSs nameB ys)))) : GivesV (EE w) 46 [L] (.sc (.bool (formedSs nameB xs))) := by
 have hwf := hL.wf hx.wf
 have hln := hx.len
 have hLn := fun σ : AStore => hL.lenN hln (σ := σ)
 refine GivesV.of (fun _ => .sc _) (.cons _ _ hwf .nil) 1 ?_
 refine of_46 rfl rfl rfl (by kernel_rfl) ?_
 simp -implicitDefEqProofs only [go_sem, hLn]
 refine vlp (ι := Nat) (fun j => [(0, L), (3, (.sc (.int .i64 (j))))]) (fun j _ => j ≤ xs.length ∧ formedSs nameB (xs.take j) = true) (fun j => xs.length - j) (fun _ => rfl) 0 ?_ ?_ ?_
 ·(repeat' (first | exact trivial | refine ⟨rfl, ?_⟩))
 ·exact ⟨Nat.zero_le _, rfl⟩
 rintro j τ ⟨hj, h0⟩
 simp -implicitDefEqProofs only [go_sem, hLn]
 ((first | refine vz2 ?_ ?_ | refine vz3 ?_ ?_) <;> intro hlt)
 ·obtain ⟨x, hx1⟩ : ∃ x, xs[j]? = some x := ⟨xs[j]'(by omega), by simp⟩
  obtain ⟨e, he, hxe⟩ := hx.at hx1
  have hmem := List.mem_of_getElem? hx1
  obtain ⟨k, nm, v, body, els'⟩ := x
  have cc := hxe.cellsOk
  simp only [IsSt] at hxe
  obtain ⟨SA, SB, SE, ea, eb, ee, rfl, hA', ha, hB, hb', hE, hee, h1, h2, h3, h4, h5, h6, h7, h8⟩ := hxe
  have hvx := ex_of hA' ha h2 h3 h5 h6
  have kA := hA'.fit
  have cA := hA'.cells
  have iA := hA'.isCell
  have kB := hB.fit
  have cB := hB.cells
  have iB := hB.isCell
  have kE := hE.fit
  have cE := hE.cells
  have iE := hE.isCell
  have hBn := fun σ : AStore => hB.lenN hb'.len (σ := σ)
  have hEn := fun σ : AStore => hE.lenN hee.len (σ := σ)
  have rB := fun w : WD => rec _ hmem body (fun _ _ _ _ _ h => by cases h; exact .inl rfl) w SB eb hB hb' h7
  have rE := fun w : WD => rec _ hmem els' (fun _ _ _ _ _ h => by cases h; exact .inr rfl) w SE ee hE hee h8
  have hw := wrapS (i := j) (by omega)
  have hno := formedSs_bad hx1
  have hform : formedS nameB (.mk k nm v body els') = ((decide (1 ≤ k) && decide (k ≤ 5)) && (if k = 1 ∨ k = 2 then nameB nm else decide (nm.size = 0)) && formedB nameB v && ((decide (body.length = 0) || (decide (k = 3) || decide (k = 4))) && (decide (els'.length = 0) || decide (k = 3))) && formedSs nameB body && formedSs nameB els') := by simp only [formedS]
  have hb4 : (body.length = 0 ∨ k = 3 ∨ k = 4) ∧ (els'.length = 0 ∨ k = 3) → ((decide (body.length = 0) || (decide (k = 3) || decide (k = 4))) && (decide (els'.length = 0) || decide (k = 3))) = true := by
   intro h; simpa using h
  have hb5 : ¬ ((body.length = 0 ∨ k = 3 ∨ k = 4) ∧ (els'.length = 0 ∨ k = 3)) → ((decide (body.length = 0) || (decide (k = 3) || decide (k = 4))) && (decide (els'.length = 0) || decide (k = 3))) = false := by
   intro h
   rw [Bool.eq_false_iff]
   intro hc
   exact h (by simpa using hc)
  by_cases hk15 : 1 ≤ k ∧ k ≤ 5
  ·(repeat' first | ((first | refine vy1 ?_ ?_ | refine vy2 ?_ ?_ | refine vy3 ?_ ?_) <;> rintro ⟨hd, hq⟩ <;> first | (exfalso; omega) | simp -implicitDefEqProofs only [go_sem, hd] | skip) | refine vzt ?_ | refine vzf ?_ | refine vsb ?_ | refine vzb ?_ | refine vzq ?_ | simp -implicitDefEqProofs only [go_sem, hL.idx he, cc, kA, cA, iA, kB, cB, iB, kE, cE, iE])
   have hg : ((τ.alloc (.cells 8 [.agg [.sc (.int .i64 0), .sc (.string ⟨#[]⟩), .sc (.int .i64 0), .sc (.string ⟨#[]⟩), .sc (.int .i64 0), .sc (.slice none 0 0), .sc (.slice none 0 0), .sc (.slice none 0 0)]])).set τ.next (.cells 8 [.agg [(.sc (.int .i64 (k))), .sc (.string nm), (.sc (.int .i64 (v.k))), .sc (.string v.nm), (.sc (.int .i64 (v.i))), SA, SB, SE]])).get τ.next = some (.cells 8 [.agg [(.sc (.int .i64 (k))), .sc (.string nm), (.sc (.int .i64 (v.k))), .sc (.string v.nm), (.sc (.int .i64 (v.i))), SA, SB, SE]]) := by rw [AStore.get_set, if_pos ⟨rfl, by simp only [alloc_next]; omega⟩]
   generalize (τ.alloc (.cells 8 [.agg [.sc (.int .i64 0), .sc (.string ⟨#[]⟩), .sc (.int .i64 0), .sc (.string ⟨#[]⟩), .sc (.int .i64 0), .sc (.slice none 0 0), .sc (.slice none 0 0), .sc (.slice none 0 0)]])).set τ.next (.cells 8 [.agg [(.sc (.int .i64 (k))), .sc (.string nm), (.sc (.int .i64 (v.k))), .sc (.string v.nm), (.sc (.int .i64 (v.i))), SA, SB, SE]]) = τ1 at hg ⊢
   refine (formedRC hvx).use ?_
   cases hfv : formedB nameB v with
   | false =>
    (repeat' first | ((first | refine vy1 ?_ ?_ | refine vy2 ?_ ?_ | refine vy3 ?_ ?_) <;> rintro ⟨hd, hq⟩ <;> first | (exfalso; omega) | simp -implicitDefEqProofs only [go_sem, hd] | skip) | refine vzt ?_ | refine vzf ?_ | refine vsb ?_ | refine vzb ?_ | refine vzq ?_ | simp -implicitDefEqProofs only [go_sem, hfv])
    exact ret_bool (hno (by simp [formedS, hfv])).symm
   | true =>
    by_cases hown : k = 1 ∨ k = 2
    ·rw [if_pos hown] at hform
     (repeat' first | ((first | refine vy1 ?_ ?_ | refine vy2 ?_ ?_ | refine vy3 ?_ ?_) <;> rintro ⟨hd, hq⟩ <;> first | (exfalso; omega) | simp -implicitDefEqProofs only [go_sem, hd] | skip) | refine vzt ?_ | refine vzf ?_ | refine vsb ?_ | refine vzb ?_ | refine vzq ?_ | simp -implicitDefEqProofs only [go_sem, hfv, hg, kA, cA, iA, kB, cB, iB, kE, cE, iE])
     all_goals refine (nameRC nm).use ?_
     all_goals cases hNm : nameB nm with
      | false =>
       (repeat' first | ((first | refine vy1 ?_ ?_ | refine vy2 ?_ ?_ | refine vy3 ?_ ?_) <;> rintro ⟨hd, hq⟩ <;> first | (exfalso; omega) | simp -implicitDefEqProofs only [go_sem, hd] | skip) | refine vzt ?_ | refine vzf ?_ | refine vsb ?_ | refine vzb ?_ | refine vzq ?_ | simp -implicitDefEqProofs only [go_sem, hNm])
       all_goals exact ret_bool (hno (by rw [hform, hNm]; simp)).symm
      | true =>
       (repeat' first | ((first | refine vy1 ?_ ?_ | refine vy2 ?_ ?_ | refine vy3 ?_ ?_) <;> rintro ⟨hd, hq⟩ <;> first | (exfalso; omega) | simp -implicitDefEqProofs only [go_sem, hd] | skip) | refine vzt ?_ | refine vzf ?_ | refine vsb ?_ | refine vzb ?_ | refine vzq ?_ | simp -implicitDefEqProofs only [go_sem, hNm])
       by_cases hbe : (body.length = 0 ∨ k = 3 ∨ k = 4) ∧ (els'.length = 0 ∨ k = 3)
       ·(repeat' first | ((first | refine vy1 ?_ ?_ | refine vy2 ?_ ?_ | refine vy3 ?_ ?_) <;> rintro ⟨hd, hq⟩ <;> first | (exfalso; omega) | simp -implicitDefEqProofs only [go_sem, hd] | skip) | refine vzt ?_ | refine vzf ?_ | refine vsb ?_ | refine vzb ?_ | refine vzq ?_ | simp -implicitDefEqProofs only [go_sem, hg, hBn, hEn, kA, cA, iA, kB, cB, iB, kE, cE, iE])
        all_goals refine (rB _).use ?_
        all_goals cases hfb : formedSs nameB body with
         | false =>
          (repeat' first | ((first | refine vy1 ?_ ?_ | refine vy2 ?_ ?_ | refine vy3 ?_ ?_) <;> rintro ⟨hd, hq⟩ <;> first | (exfalso; omega) | simp -implicitDefEqProofs only [go_sem, hd] | skip) | refine vzt ?_ | refine vzf ?_ | refine vsb ?_ | refine vzb ?_ | refine vzq ?_ | simp -implicitDefEqProofs only [go_sem, hfb])
          all_goals exact ret_bool (hno (by simp [formedS, hfb])).symm
         | true =>
          (repeat' first | ((first | refine vy1 ?_ ?_ | refine vy2 ?_ ?_ | refine vy3 ?_ ?_) <;> rintro ⟨hd, hq⟩ <;> first | (exfalso; omega) | simp -implicitDefEqProofs only [go_sem, hd] | skip) | refine vzt ?_ | refine vzf ?_ | refine vsb ?_ | refine vzb ?_ | refine vzq ?_ | simp -implicitDefEqProofs only [go_sem, hfb, hg, kA, cA, iA, kB, cB, iB, kE, cE, iE])
          all_goals refine (rE _).use ?_
          all_goals cases hfe : formedSs nameB els' with
           | false =>
            (repeat' first | ((first | refine vy1 ?_ ?_ | refine vy2 ?_ ?_ | refine vy3 ?_ ?_) <;> rintro ⟨hd, hq⟩ <;> first | (exfalso; omega) | simp -implicitDefEqProofs only [go_sem, hd] | skip) | refine vzt ?_ | refine vzf ?_ | refine vsb ?_ | refine vzb ?_ | refine vzq ?_ | simp -implicitDefEqProofs only [go_sem, hfe])
            all_goals exact ret_bool (hno (by simp [formedS, hfe])).symm
           | true =>
            have hyes : formedS nameB (.mk k nm v body els') = true := by
             rw [hform, hfv, hNm, hfb, hfe, hb4 hbe, dct hk15.1, dct hk15.2]; rfl
            (repeat' first | ((first | refine vy1 ?_ ?_ | refine vy2 ?_ ?_ | refine vy3 ?_ ?_) <;> rintro ⟨hd, hq⟩ <;> first | (exfalso; omega) | simp -implicitDefEqProofs only [go_sem, hd] | skip) | refine vzt ?_ | refine vzf ?_ | refine vsb ?_ | refine vzb ?_ | refine vzq ?_ | simp -implicitDefEqProofs only [go_sem, hfe, hw])
            all_goals exact ⟨j + 1, by dsimp only; omega, ⟨by omega, formedSs_take hx1 h0 hyes⟩, by (repeat' (first | exact trivial | refine ⟨rfl, ?_⟩))⟩
       ·(repeat' first | ((first | refine vy1 ?_ ?_ | refine vy2 ?_ ?_ | refine vy3 ?_ ?_) <;> rintro ⟨hd, hq⟩ <;> first | (exfalso; omega) | simp -implicitDefEqProofs only [go_sem, hd] | skip) | refine vzt ?_ | refine vzf ?_ | refine vsb ?_ | refine vzb ?_ | refine vzq ?_ | simp -implicitDefEqProofs only [go_sem, hg, hBn, hEn, kA, cA, iA, kB, cB, iB, kE, cE, iE])
        all_goals exact ret_bool (hno (by rw [hform, hb5 hbe]; simp)).symm
    ·rw [if_neg hown] at hform
     (repeat' first | ((first | refine vy1 ?_ ?_ | refine vy2 ?_ ?_ | refine vy3 ?_ ?_) <;> rintro ⟨hd, hq⟩ <;> first | (exfalso; omega) | simp -implicitDefEqProofs only [go_sem, hd] | skip) | refine vzt ?_ | refine vzf ?_ | refine vsb ?_ | refine vzb ?_ | refine vzq ?_ | simp -implicitDefEqProofs only [go_sem, hfv, hg, kA, cA, iA, kB, cB, iB, kE, cE, iE])
     rw [← nm_empty] at hform
     by_cases hN : nm = ⟨#[]⟩
     ·rw [dct hN] at hform
      (repeat' first | ((first | refine vy1 ?_ ?_ | refine vy2 ?_ ?_ | refine vy3 ?_ ?_) <;> rintro ⟨hd, hq⟩ <;> first | (exfalso; omega) | simp -implicitDefEqProofs only [go_sem, hd] | skip) | refine vzt ?_ | refine vzf ?_ | refine vsb ?_ | refine vzb ?_ | refine vzq ?_ | simp -implicitDefEqProofs only [go_sem, ba_list, dct hN])
      by_cases hbe : (body.length = 0 ∨ k = 3 ∨ k = 4) ∧ (els'.length = 0 ∨ k = 3)
      ·(repeat' first | ((first | refine vy1 ?_ ?_ | refine vy2 ?_ ?_ | refine vy3 ?_ ?_) <;> rintro ⟨hd, hq⟩ <;> first | (exfalso; omega) | simp -implicitDefEqProofs only [go_sem, hd] | skip) | refine vzt ?_ | refine vzf ?_ | refine vsb ?_ | refine vzb ?_ | refine vzq ?_ | simp -implicitDefEqProofs only [go_sem, hg, hBn, hEn, kA, cA, iA, kB, cB, iB, kE, cE, iE])
       all_goals refine (rB _).use ?_
       all_goals cases hfb : formedSs nameB body with
        | false =>
         (repeat' first | ((first | refine vy1 ?_ ?_ | refine vy2 ?_ ?_ | refine vy3 ?_ ?_) <;> rintro ⟨hd, hq⟩ <;> first | (exfalso; omega) | simp -implicitDefEqProofs only [go_sem, hd] | skip) | refine vzt ?_ | refine vzf ?_ | refine vsb ?_ | refine vzb ?_ | refine vzq ?_ | simp -implicitDefEqProofs only [go_sem, hfb])
         all_goals exact ret_bool (hno (by simp [formedS, hfb])).symm
        | true =>
         (repeat' first | ((first | refine vy1 ?_ ?_ | refine vy2 ?_ ?_ | refine vy3 ?_ ?_) <;> rintro ⟨hd, hq⟩ <;> first | (exfalso; omega) | simp -implicitDefEqProofs only [go_sem, hd] | skip) | refine vzt ?_ | refine vzf ?_ | refine vsb ?_ | refine vzb ?_ | refine vzq ?_ | simp -implicitDefEqProofs only [go_sem, hfb, hg, kA, cA, iA, kB, cB, iB, kE, cE, iE])
         all_goals refine (rE _).use ?_
         all_goals cases hfe : formedSs nameB els' with
          | false =>
           (repeat' first | ((first | refine vy1 ?_ ?_ | refine vy2 ?_ ?_ | refine vy3 ?_ ?_) <;> rintro ⟨hd, hq⟩ <;> first | (exfalso; omega) | simp -implicitDefEqProofs only [go_sem, hd] | skip) | refine vzt ?_ | refine vzf ?_ | refine vsb ?_ | refine vzb ?_ | refine vzq ?_ | simp -implicitDefEqProofs only [go_sem, hfe])
           all_goals exact ret_bool (hno (by simp [formedS, hfe])).symm
          | true =>
           have hyes : formedS nameB (.mk k nm v body els') = true := by
            rw [hform, hfv, hfb, hfe, hb4 hbe, dct hk15.1, dct hk15.2]; rfl
           (repeat' first | ((first | refine vy1 ?_ ?_ | refine vy2 ?_ ?_ | refine vy3 ?_ ?_) <;> rintro ⟨hd, hq⟩ <;> first | (exfalso; omega) | simp -implicitDefEqProofs only [go_sem, hd] | skip) | refine vzt ?_ | refine vzf ?_ | refine vsb ?_ | refine vzb ?_ | refine vzq ?_ | simp -implicitDefEqProofs only [go_sem, hfe, hw])
           all_goals exact ⟨j + 1, by dsimp only; omega, ⟨by omega, formedSs_take hx1 h0 hyes⟩, by (repeat' (first | exact trivial | refine ⟨rfl, ?_⟩))⟩
      ·(repeat' first | ((first | refine vy1 ?_ ?_ | refine vy2 ?_ ?_ | refine vy3 ?_ ?_) <;> rintro ⟨hd, hq⟩ <;> first | (exfalso; omega) | simp -implicitDefEqProofs only [go_sem, hd] | skip) | refine vzt ?_ | refine vzf ?_ | refine vsb ?_ | refine vzb ?_ | refine vzq ?_ | simp -implicitDefEqProofs only [go_sem, hg, hBn, hEn, kA, cA, iA, kB, cB, iB, kE, cE, iE])
       all_goals exact ret_bool (hno (by rw [hform, hb5 hbe]; simp)).symm
     ·rw [dcf hN] at hform
      (repeat' first | ((first | refine vy1 ?_ ?_ | refine vy2 ?_ ?_ | refine vy3 ?_ ?_) <;> rintro ⟨hd, hq⟩ <;> first | (exfalso; omega) | simp -implicitDefEqProofs only [go_sem, hd] | skip) | refine vzt ?_ | refine vzf ?_ | refine vsb ?_ | refine vzb ?_ | refine vzq ?_ | simp -implicitDefEqProofs only [go_sem, ba_list, dcf hN])
      exact ret_bool (hno (by rw [hform]; simp)).symm
  ·(repeat' first | ((first | refine vy1 ?_ ?_ | refine vy2 ?_ ?_ | refine vy3 ?_ ?_) <;> rintro ⟨hd, hq⟩ <;> first | (exfalso; omega) | simp -implicitDefEqProofs only [go_sem, hd] | skip) | refine vzt ?_ | refine vzf ?_ | refine vsb ?_ | refine vzb ?_ | refine vzq ?_ | simp -implicitDefEqProofs only [go_sem, hL.idx he, cc, kA, cA, iA, kB, cB, iB, kE, cE, iE])
   all_goals exact ret_bool (hno (by rw [hform]; rcases Classical.em (1 ≤ k) with h | h <;> simp [h]; omega)).symm
 ·obtain rfl : j = xs.length := by omega
  rw [List.take_length] at h0
  (repeat' first | ((first | refine vy1 ?_ ?_ | refine vy2 ?_ ?_ | refine vy3 ?_ ?_) <;> rintro ⟨hd, hq⟩ <;> first | (exfalso; omega) | simp -implicitDefEqProofs only [go_sem, hd] | skip) | refine vzt ?_ | refine vzf ?_ | refine vsb ?_ | refine vzb ?_ | refine vzq ?_ | simp -implicitDefEqProofs only [go_sem])
  exact ret_bool h0.symm
theorem formedAllRC : ∀ {N : Nat} {xs : List St} {w : WD} {L : AVal} {els : List AVal}, nodesSs xs ≤ N → IsD 8 L els → IsSts xs els → els.length ≤ 281474976710656 → GivesV (EE w) 46 [L] (.sc (.bool (formedSs nameB xs)))
  | 0, xs, _, _, _, hN, hL, hx, hlen => formedAllRStep hL hx hlen fun x hmem => by
      obtain ⟨j, hj, rfl⟩ := List.mem_iff_getElem.1 hmem
      have h1 := nodesS_at (List.getElem?_eq_getElem hj)
      have h2 := nodesS_pos xs[j]
      omega
  | N + 1, xs, _, _, _, hN, hL, hx, hlen => formedAllRStep hL hx hlen fun x hmem ys hys w L els h1 h2 h3 => formedAllRC (N := N) (by
      obtain ⟨j, hj, rfl⟩ := List.mem_iff_getElem.1 hmem
      have h1 := nodesS_at (List.getElem?_eq_getElem hj)
      revert h1 hys
      generalize xs[j] = x
      intro hys h1
      obtain ⟨k, nm, v, b, e⟩ := x
      have := nodesE_pos v
      simp only [nodesS] at h1
      rcases hys _ _ _ _ _ rfl with rfl | rfl <;> omega) h1 h2 h3
theorem checkExpRC {w : WD} {x : Ex} {v : AVal} (h : IsEx x v) (hb : nodesE x ≤ 1099511627776) : GivesV (EE w) 28 [v] (.sc (.int .i64 (checkE nameB x))) := by
 obtain ⟨c1, c2, c3⟩ := h.isA.facts
 have cc := h.cellsOk
 have hfit : v.fit = true := by obtain ⟨cs, rfl, _⟩ := h.isA; rfl
 refine GivesV.of (fun _ => .sc _) (.cons _ _ h.wf .nil) 1 ?_
 refine of_28 rfl rfl rfl (by kernel_rfl) ?_
 simp -implicitDefEqProofs only [go_sem, c1, c2, c3, cc, hfit]
 have g0 : (empty.alloc (.cells 4 [v])).get 0 = some (.cells 4 [v]) := by rw [AStore.get_alloc]; rfl
 generalize empty.alloc (.cells 4 [v]) = τ at g0 ⊢
 refine (formedRC h).use ?_
 unfold checkE
 cases hf : formedB nameB x with
 | false =>
  (repeat' first | ((first | refine vy1 ?_ ?_ | refine vy2 ?_ ?_ | refine vy3 ?_ ?_) <;> rintro ⟨hd, hq⟩ <;> first | (exfalso; omega) | simp -implicitDefEqProofs only [go_sem, hd] | skip) | refine vzt ?_ | refine vzf ?_ | refine vsb ?_ | refine vzb ?_ | refine vzq ?_ | simp -implicitDefEqProofs only [go_sem, hf])
  exact ret_int rfl
 | true =>
  (repeat' first | ((first | refine vy1 ?_ ?_ | refine vy2 ?_ ?_ | refine vy3 ?_ ?_) <;> rintro ⟨hd, hq⟩ <;> first | (exfalso; omega) | simp -implicitDefEqProofs only [go_sem, hd] | skip) | refine vzt ?_ | refine vzf ?_ | refine vsb ?_ | refine vzb ?_ | refine vzq ?_ | simp -implicitDefEqProofs only [go_sem, hf, g0, c1, c2, c3, cc, hfit])
  refine (smallRC h hb).use ?_
  cases hs : smallE x with
  | false =>
   (repeat' first | ((first | refine vy1 ?_ ?_ | refine vy2 ?_ ?_ | refine vy3 ?_ ?_) <;> rintro ⟨hd, hq⟩ <;> first | (exfalso; omega) | simp -implicitDefEqProofs only [go_sem, hd] | skip) | refine vzt ?_ | refine vzf ?_ | refine vsb ?_ | refine vzb ?_ | refine vzq ?_ | simp -implicitDefEqProofs only [go_sem, hs])
   exact ret_int rfl
  | true =>
   (repeat' first | ((first | refine vy1 ?_ ?_ | refine vy2 ?_ ?_ | refine vy3 ?_ ?_) <;> rintro ⟨hd, hq⟩ <;> first | (exfalso; omega) | simp -implicitDefEqProofs only [go_sem, hd] | skip) | refine vzt ?_ | refine vzf ?_ | refine vsb ?_ | refine vzb ?_ | refine vzq ?_ | simp -implicitDefEqProofs only [go_sem, hs])
   exact ret_int rfl
theorem retRStep {xs : List St} {w : WD} {L : AVal} {els : List AVal} (hL : IsD 8 L els) (hx : IsSts xs els) (hlen : els.length ≤ 281474976710656)
  (rec : ∀ x ∈ xs, ∀ (ys : List St), (∀ k nm v b e, x = .mk k nm v b e → ys = b ∨ ys = e) → ∀ (w : WD) (L : AVal) (els : List AVal), IsD 8 L els → IsSts ys els → els.length ≤ 281474976710656 →
   GivesV (EE w) 49 [L] (.sc (.bool (retSs ys)))) : GivesV (EE w) 49 [L] (.sc (.bool (retSs xs))) := by
 have hwf := hL.wf hx.wf
 have hln := hx.len
 have hLn := fun σ : AStore => hL.lenN hln (σ := σ)
 refine GivesV.of (fun _ => .sc _) (.cons _ _ hwf .nil) 2 ?_
 refine of_49 rfl rfl rfl (by kernel_rfl) ?_
 simp -implicitDefEqProofs only [go_sem, hLn]
 refine vlp (ι := Nat) (fun j => [(0, L), (3, (.sc (.int .i64 (j))))]) (fun j τ => j ≤ xs.length ∧ retSs (xs.take j) = false) (fun j => xs.length - j) (fun _ => rfl) 0 ?_ ?_ ?_
 ·(repeat' (first | exact trivial | refine ⟨rfl, ?_⟩))
 ·exact ⟨Nat.zero_le _, rfl⟩
 rintro j τ ⟨hj, h0⟩
 simp -implicitDefEqProofs only [go_sem, hLn]
 ((first | refine vz2 ?_ ?_ | refine vz3 ?_ ?_) <;> intro hlt)
 ·obtain ⟨x, hx1⟩ : ∃ x, xs[j]? = some x := ⟨xs[j]'(by omega), by simp⟩
  obtain ⟨e, he, hxe⟩ := hx.at hx1
  have hmem := List.mem_of_getElem? hx1
  obtain ⟨k, nm, v, body, els'⟩ := x
  simp only [IsSt] at hxe
  obtain ⟨SA, SB, SE, ea, eb, ee, rfl, hA', ha, hB, hb', hE, hee, h1, h2, h3, h4, h5, h6, h7, h8⟩ := hxe
  have rB := fun w : WD => rec _ hmem body (fun _ _ _ _ _ h => by cases h; exact .inl rfl) w SB eb hB hb' h7
  have rE := fun w : WD => rec _ hmem els' (fun _ _ _ _ _ h => by cases h; exact .inr rfl) w SE ee hE hee h8
  have hw := wrapS (i := j) (by omega)
  have hr : retS (.mk k nm v body els') = (decide (k = 5) || (decide (k = 3) && retSs body && retSs els')) := by simp [retS]
  have hno : retS (.mk k nm v body els') = false → retSs (xs.take (j + 1)) = false := retSs_take hx1 h0
  have hyes : retS (.mk k nm v body els') = true → retSs xs = true := retSs_at hx1
  rw [hr] at hno hyes
  by_cases k5 : k = 5
  ·(repeat' first | ((first | refine vy1 ?_ ?_ | refine vy2 ?_ ?_ | refine vy3 ?_ ?_) <;> rintro ⟨hd, hq⟩ <;> first | (exfalso; omega) | simp -implicitDefEqProofs only [go_sem, hd] | skip) | refine vzt ?_ | refine vzf ?_ | refine vsb ?_ | refine vzb ?_ | refine vzq ?_ | simp -implicitDefEqProofs only [go_sem, hL.idx he, dct k5])
   exact ret_bool (hyes (by simp [k5])).symm
  ·by_cases k3 : k = 3
   ·(repeat' first | ((first | refine vy1 ?_ ?_ | refine vy2 ?_ ?_ | refine vy3 ?_ ?_) <;> rintro ⟨hd, hq⟩ <;> first | (exfalso; omega) | simp -implicitDefEqProofs only [go_sem, hd] | skip) | refine vzt ?_ | refine vzf ?_ | refine vsb ?_ | refine vzb ?_ | refine vzq ?_ | simp -implicitDefEqProofs only [go_sem, hL.idx he, dcf k5, dct k3])
    refine (rB _).use ?_
    cases hb0 : retSs body with
    | false =>
     (repeat' first | ((first | refine vy1 ?_ ?_ | refine vy2 ?_ ?_ | refine vy3 ?_ ?_) <;> rintro ⟨hd, hq⟩ <;> first | (exfalso; omega) | simp -implicitDefEqProofs only [go_sem, hd] | skip) | refine vzt ?_ | refine vzf ?_ | refine vsb ?_ | refine vzb ?_ | refine vzq ?_ | simp -implicitDefEqProofs only [go_sem, hb0, hw])
     exact ⟨j + 1, by dsimp only; omega, ⟨by omega, hno (by simp [k5, hb0])⟩, by (repeat' (first | exact trivial | refine ⟨rfl, ?_⟩))⟩
    | true =>
     (repeat' first | ((first | refine vy1 ?_ ?_ | refine vy2 ?_ ?_ | refine vy3 ?_ ?_) <;> rintro ⟨hd, hq⟩ <;> first | (exfalso; omega) | simp -implicitDefEqProofs only [go_sem, hd] | skip) | refine vzt ?_ | refine vzf ?_ | refine vsb ?_ | refine vzb ?_ | refine vzq ?_ | simp -implicitDefEqProofs only [go_sem, hb0, hw, hL.idx he])
     refine (rE _).use ?_
     cases hb1 : retSs els' with
     | false =>
      (repeat' first | ((first | refine vy1 ?_ ?_ | refine vy2 ?_ ?_ | refine vy3 ?_ ?_) <;> rintro ⟨hd, hq⟩ <;> first | (exfalso; omega) | simp -implicitDefEqProofs only [go_sem, hd] | skip) | refine vzt ?_ | refine vzf ?_ | refine vsb ?_ | refine vzb ?_ | refine vzq ?_ | simp -implicitDefEqProofs only [go_sem, hb1, hw])
      exact ⟨j + 1, by dsimp only; omega, ⟨by omega, hno (by simp [k5, hb0, hb1])⟩, by (repeat' (first | exact trivial | refine ⟨rfl, ?_⟩))⟩
     | true =>
      (repeat' first | ((first | refine vy1 ?_ ?_ | refine vy2 ?_ ?_ | refine vy3 ?_ ?_) <;> rintro ⟨hd, hq⟩ <;> first | (exfalso; omega) | simp -implicitDefEqProofs only [go_sem, hd] | skip) | refine vzt ?_ | refine vzf ?_ | refine vsb ?_ | refine vzb ?_ | refine vzq ?_ | simp -implicitDefEqProofs only [go_sem, hb1, hw])
      exact ret_bool (hyes (by simp [k3, hb0, hb1])).symm
   ·(repeat' first | ((first | refine vy1 ?_ ?_ | refine vy2 ?_ ?_ | refine vy3 ?_ ?_) <;> rintro ⟨hd, hq⟩ <;> first | (exfalso; omega) | simp -implicitDefEqProofs only [go_sem, hd] | skip) | refine vzt ?_ | refine vzf ?_ | refine vsb ?_ | refine vzb ?_ | refine vzq ?_ | simp -implicitDefEqProofs only [go_sem, hL.idx he, dcf k5, dcf k3, hw])
    exact ⟨j + 1, by dsimp only; omega, ⟨by omega, hno (by simp [k5, k3])⟩, by (repeat' (first | exact trivial | refine ⟨rfl, ?_⟩))⟩
 ·obtain rfl : j = xs.length := by omega
  rw [List.take_length] at h0
  (repeat' first | ((first | refine vy1 ?_ ?_ | refine vy2 ?_ ?_ | refine vy3 ?_ ?_) <;> rintro ⟨hd, hq⟩ <;> first | (exfalso; omega) | simp -implicitDefEqProofs only [go_sem, hd] | skip) | refine vzt ?_ | refine vzf ?_ | refine vsb ?_ | refine vzb ?_ | refine vzq ?_ | simp -implicitDefEqProofs only [go_sem])
  exact ret_bool h0.symm
theorem retRC : ∀ {N : Nat} {xs : List St} {w : WD} {L : AVal} {els : List AVal}, nodesSs xs ≤ N → IsD 8 L els → IsSts xs els → els.length ≤ 281474976710656 → GivesV (EE w) 49 [L] (.sc (.bool (retSs xs)))
  | 0, xs, _, _, _, hN, hL, hx, hlen => retRStep hL hx hlen fun x hmem => by
      obtain ⟨j, hj, rfl⟩ := List.mem_iff_getElem.1 hmem
      have h1 := nodesS_at (List.getElem?_eq_getElem hj)
      have h2 := nodesS_pos xs[j]
      omega
  | N + 1, xs, _, _, _, hN, hL, hx, hlen => retRStep hL hx hlen fun x hmem ys hys w L els h1 h2 h3 => retRC (N := N) (by
      obtain ⟨j, hj, rfl⟩ := List.mem_iff_getElem.1 hmem
      have h1 := nodesS_at (List.getElem?_eq_getElem hj)
      revert h1 hys
      generalize xs[j] = x
      intro hys h1
      obtain ⟨k, nm, v, b, e⟩ := x
      have := nodesE_pos v
      simp only [nodesS] at h1
      rcases hys _ _ _ _ _ rfl with rfl | rfl <;> omega) h1 h2 h3
theorem ps_take {l : List ByteArray} {j : Nat} {f : ByteArray} {P : ByteArray → Bool} (h : l[j]? = some f) (h0 : (l.take j).all P = true) (h1 : P f = true) : (l.take (j + 1)).all P = true := by
 obtain ⟨hj, he⟩ := List.getElem?_eq_some_iff.1 h
 rw [List.take_succ_eq_append_getElem hj, List.all_append, h0, he]
 simp [h1]
theorem ps_bad {l : List ByteArray} {j : Nat} {f : ByteArray} {P : ByteArray → Bool} (h : l[j]? = some f) (h1 : P f = false) : l.all P = false := by
 rw [List.all_eq_false]
 exact ⟨f, List.mem_of_getElem? h, by simp [h1]⟩
theorem checkFuncsRC {w : WD} {L : AVal} {els : List AVal} {fs : List Fc} (hL : IsD 3 L els) (hl : IsFcs fs els) (hlen : els.length ≤ 281474976710656) (hb : nodesF fs ≤ 1099511627776) : GivesV (EE w) 24 [L] (.sc (.int .i64 (checkF nameB fs))) := by
 have hll := hl.len
 have hLn : ∀ σ : AStore, aLen (.slice 0) L σ = some (.sc (.int .i64 (fs.length))) := fun σ => hL.lenN hll
 have hSm := fun w : WD => smallAllRC (w := w) hL hl hlen hb
 refine GivesV.of (fun _ => .sc _) (.cons _ _ (hL.wf hl.wf) .nil) 1 ?_
 refine of_24 rfl rfl rfl (by kernel_rfl) ?_
 simp -implicitDefEqProofs only [go_sem, hLn]
 refine vlp (ι := Nat) (fun j => [(0, L), (3, (.sc (.int .i64 (j))))]) (fun j _ => j ≤ fs.length ∧ (fs.take j).all (formedF nameB) = true) (fun j => fs.length - j) (fun _ => rfl) 0 ?_ ?_ ?_
 ·(repeat' (first | exact trivial | refine ⟨rfl, ?_⟩))
 ·exact ⟨Nat.zero_le _, rfl⟩
 rintro j τ ⟨hj, h0⟩
 simp -implicitDefEqProofs only [go_sem, hLn]
 ((first | refine vz2 ?_ ?_ | refine vz3 ?_ ?_) <;> intro hlt)
 ·obtain ⟨f, hf⟩ : ∃ f, fs[j]? = some f := ⟨fs[j]'(by omega), by simp⟩
  obtain ⟨e, he, hfe⟩ := hl.at' j f hf
  obtain ⟨SP, SB, eb, rfl, hP, hB, hb', h1, h2, h3, h4⟩ := hfe
  have hPn : ∀ σ : AStore, aLen (.slice 0) SP σ = some (.sc (.int .i64 (f.ps.length))) := fun σ => by have := hP.len (σ := σ); rwa [List.length_map] at this
  have hw := wrapS (i := j) (by omega)
  have hok := all_takeP (P := formedF nameB) hf h0
  have hno := all_badP (P := formedF nameB) hf
  have hbad : formedF nameB f = false → checkF nameB fs = 2 := fun h => by
   have := hno h
   unfold checkF
   rw [this]; rfl
  (repeat' first | ((first | refine vy1 ?_ ?_ | refine vy2 ?_ ?_ | refine vy3 ?_ ?_) <;> rintro ⟨hd, hq⟩ <;> first | (exfalso; omega) | simp -implicitDefEqProofs only [go_sem, hd] | skip) | refine vzt ?_ | refine vzf ?_ | refine vsb ?_ | refine vzb ?_ | refine vzq ?_ | simp -implicitDefEqProofs only [go_sem, hL.idx he])
  refine (nameRC f.nm).use ?_
  cases hN : nameB f.nm with
  | false =>
   (repeat' first | ((first | refine vy1 ?_ ?_ | refine vy2 ?_ ?_ | refine vy3 ?_ ?_) <;> rintro ⟨hd, hq⟩ <;> first | (exfalso; omega) | simp -implicitDefEqProofs only [go_sem, hd] | skip) | refine vzt ?_ | refine vzf ?_ | refine vsb ?_ | refine vzb ?_ | refine vzq ?_ | simp -implicitDefEqProofs only [go_sem, hN])
   exact ret_int (hbad (by simp [formedF, hN])).symm
  | true =>
   (repeat' first | ((first | refine vy1 ?_ ?_ | refine vy2 ?_ ?_ | refine vy3 ?_ ?_) <;> rintro ⟨hd, hq⟩ <;> first | (exfalso; omega) | simp -implicitDefEqProofs only [go_sem, hd] | skip) | refine vzt ?_ | refine vzf ?_ | refine vsb ?_ | refine vzb ?_ | refine vzq ?_ | simp -implicitDefEqProofs only [go_sem, hN, hL.idx he])
   refine (formedAllRC (Nat.le_refl _) hB hb' h4).use ?_
   cases hA : formedSs nameB f.body with
   | false =>
    (repeat' first | ((first | refine vy1 ?_ ?_ | refine vy2 ?_ ?_ | refine vy3 ?_ ?_) <;> rintro ⟨hd, hq⟩ <;> first | (exfalso; omega) | simp -implicitDefEqProofs only [go_sem, hd] | skip) | refine vzt ?_ | refine vzf ?_ | refine vsb ?_ | refine vzb ?_ | refine vzq ?_ | simp -implicitDefEqProofs only [go_sem, hA])
    exact ret_int (hbad (by simp [formedF, hA])).symm
   | true =>
    (repeat' first | ((first | refine vy1 ?_ ?_ | refine vy2 ?_ ?_ | refine vy3 ?_ ?_) <;> rintro ⟨hd, hq⟩ <;> first | (exfalso; omega) | simp -implicitDefEqProofs only [go_sem, hd] | skip) | refine vzt ?_ | refine vzf ?_ | refine vsb ?_ | refine vzb ?_ | refine vzq ?_ | simp -implicitDefEqProofs only [go_sem, hA, hL.idx he, hPn])
    refine vlp (ι := Nat) (fun i => [(0, L), (3, (.sc (.int .i64 (j)))), (4, (.sc (.int .i64 (i))))]) (fun i _ => i ≤ f.ps.length ∧ (f.ps.take i).all nameB = true) (fun i => f.ps.length - i) (fun _ => rfl) 0 ?_ ?_ ?_
    ·(repeat' (first | exact trivial | refine ⟨rfl, ?_⟩))
    ·exact ⟨Nat.zero_le _, rfl⟩
    rintro i τ' ⟨hi, hp0⟩
    simp -implicitDefEqProofs only [go_sem, hL.idx he, hPn]
    ((first | refine vz2 ?_ ?_ | refine vz3 ?_ ?_) <;> intro hilt)
    ·obtain ⟨p, hp⟩ : ∃ p, f.ps[i]? = some p := ⟨f.ps[i]'(by omega), by simp⟩
     have hpe : (f.ps.map sA)[i]? = some (.sc (.string p)) := by rw [List.getElem?_map, hp]; rfl
     have hwi := wrapS (i := i) (by omega)
     (repeat' first | ((first | refine vy1 ?_ ?_ | refine vy2 ?_ ?_ | refine vy3 ?_ ?_) <;> rintro ⟨hd, hq⟩ <;> first | (exfalso; omega) | simp -implicitDefEqProofs only [go_sem, hd] | skip) | refine vzt ?_ | refine vzf ?_ | refine vsb ?_ | refine vzb ?_ | refine vzq ?_ | simp -implicitDefEqProofs only [go_sem, hL.idx he, hP.idx hpe])
     refine (nameRC p).use ?_
     cases hq : nameB p with
     | false =>
      (repeat' first | ((first | refine vy1 ?_ ?_ | refine vy2 ?_ ?_ | refine vy3 ?_ ?_) <;> rintro ⟨hd, hq⟩ <;> first | (exfalso; omega) | simp -implicitDefEqProofs only [go_sem, hd] | skip) | refine vzt ?_ | refine vzf ?_ | refine vsb ?_ | refine vzb ?_ | refine vzq ?_ | simp -implicitDefEqProofs only [go_sem, hq])
      exact ret_int (hbad (by simp [formedF, ps_bad hp hq])).symm
     | true =>
      (repeat' first | ((first | refine vy1 ?_ ?_ | refine vy2 ?_ ?_ | refine vy3 ?_ ?_) <;> rintro ⟨hd, hq⟩ <;> first | (exfalso; omega) | simp -implicitDefEqProofs only [go_sem, hd] | skip) | refine vzt ?_ | refine vzf ?_ | refine vsb ?_ | refine vzb ?_ | refine vzq ?_ | simp -implicitDefEqProofs only [go_sem, hq, hwi])
      exact ⟨i + 1, by dsimp only; omega, ⟨by omega, ps_take hp hp0 hq⟩, by (repeat' (first | exact trivial | refine ⟨rfl, ?_⟩))⟩
    ·obtain rfl : i = f.ps.length := by omega
     rw [List.take_length] at hp0
     (repeat' first | ((first | refine vy1 ?_ ?_ | refine vy2 ?_ ?_ | refine vy3 ?_ ?_) <;> rintro ⟨hd, hq⟩ <;> first | (exfalso; omega) | simp -implicitDefEqProofs only [go_sem, hd] | skip) | refine vzt ?_ | refine vzf ?_ | refine vsb ?_ | refine vzb ?_ | refine vzq ?_ | simp -implicitDefEqProofs only [go_sem, hw])
     exact ⟨j + 1, by dsimp only; omega, ⟨by omega, hok (by simp [formedF, hN, hA, hp0])⟩, by (repeat' (first | exact trivial | refine ⟨rfl, ?_⟩))⟩
 ·obtain rfl : j = fs.length := by omega
  rw [List.take_length] at h0
  have hc : checkF nameB fs = if smallF fs then 0 else 3 := by unfold checkF; rw [if_pos h0]
  rw [hc]
  (repeat' first | ((first | refine vy1 ?_ ?_ | refine vy2 ?_ ?_ | refine vy3 ?_ ?_) <;> rintro ⟨hd, hq⟩ <;> first | (exfalso; omega) | simp -implicitDefEqProofs only [go_sem, hd] | skip) | refine vzt ?_ | refine vzf ?_ | refine vsb ?_ | refine vzb ?_ | refine vzq ?_ | simp -implicitDefEqProofs only [go_sem])
  refine (hSm _).use ?_
  cases hs : smallF fs with
  | false =>
   (repeat' first | ((first | refine vy1 ?_ ?_ | refine vy2 ?_ ?_ | refine vy3 ?_ ?_) <;> rintro ⟨hd, hq⟩ <;> first | (exfalso; omega) | simp -implicitDefEqProofs only [go_sem, hd] | skip) | refine vzt ?_ | refine vzf ?_ | refine vsb ?_ | refine vzb ?_ | refine vzq ?_ | simp -implicitDefEqProofs only [go_sem, hs])
   exact ret_int rfl
  | true =>
   (repeat' first | ((first | refine vy1 ?_ ?_ | refine vy2 ?_ ?_ | refine vy3 ?_ ?_) <;> rintro ⟨hd, hq⟩ <;> first | (exfalso; omega) | simp -implicitDefEqProofs only [go_sem, hd] | skip) | refine vzt ?_ | refine vzf ?_ | refine vsb ?_ | refine vzb ?_ | refine vzq ?_ | simp -implicitDefEqProofs only [go_sem, hs])
   exact ret_int rfl
structure IsSc (g o : List ByteArray) (l : List Fc) (s : AVal) : Prop where
 ex : ∃ G O F els, s = .agg [G, O, F] ∧ IsD 1 G (g.map sA) ∧ IsD 1 O (o.map sA) ∧ IsD 3 F els ∧ IsFcs l els ∧ g.length ≤ 281474976710656 ∧ o.length ≤ 281474976710656 ∧ els.length ≤ 281474976710656
theorem fcOf_at {l : List Fc} {i : Nat} {f : Fc} {nm : ByteArray} (h : l[i]? = some f) (h0 : fcOf (l.take i) nm = none) : fcOf (l.take (i + 1)) nm = if f.nm = nm then some f else none := by
 obtain ⟨hj, he⟩ := List.getElem?_eq_some_iff.1 h
 rw [List.take_succ_eq_append_getElem hj, he, fcOf_snoc, h0]
theorem fcOf_more {l : List Fc} {i : Nat} {f : Fc} {nm : ByteArray} (h : fcOf (l.take i) nm = some f) : fcOf l nm = some f := by
 unfold fcOf at h ⊢
 rw [← List.take_append_drop i l, List.find?_append, h]; rfl
theorem expRStep {k i : Int} {nm : ByteArray} {xs : List Ex} {w : WD} {v s : AVal} {g o : List ByteArray} {l : List Fc} (h : IsEx (.mk k nm i xs) v) (hs : IsSc g o l s)
  (rec : ∀ y ∈ xs, ∀ (w : WD) (v : AVal), IsEx y v → GivesV (EE w) 29 [s, v] (.sc (.int .i64 (expE g o l y)))) :
  GivesV (EE w) 29 [s, v] (.sc (.int .i64 (expE g o l (.mk k nm i xs)))) := by
 have hwf := h.wf
 simp only [IsEx] at h
 obtain ⟨S, els, rfl, hS, hx, hk, hi, hn, hl⟩ := h
 have hlen := hx.len
 have hSn := fun σ : AStore => hS.lenN hlen (σ := σ)
 have kS := hS.fit
 have cS := hS.cells
 have iS := hS.isCell
 obtain ⟨G, O, F, fels, rfl, hG, hO, hF, hFs, lg, lo, lf⟩ := hs
 have kG := hG.fit
 have cG := hG.cells
 have iG := hG.isCell
 have kO := hO.fit
 have cO := hO.cells
 have iO := hO.isCell
 have kF := hF.fit
 have cF := hF.cells
 have iF := hF.isCell
 have hFn : ∀ σ : AStore, aLen (.slice 0) F σ = some (.sc (.int .i64 (l.length))) := fun σ => hF.lenN hFs.len
 have hsw : WF 0 (.agg [G, O, F]) := .agg _ (.cons _ _ (hG.wf (wf_sA _)) (.cons _ _ (hO.wf (wf_sA _)) (.cons _ _ (hF.wf hFs.wf) .nil)))
 refine GivesV.of (fun _ => .sc _) (.cons _ _ hsw (.cons _ _ hwf .nil)) 1 ?_
 refine of_29 rfl rfl rfl (by kernel_rfl) ?_
 simp -implicitDefEqProofs only [go_sem, kS, cS, iS, kG, cG, iG, kO, cO, iO, kF, cF, iF]
 have g0 : ((empty.alloc (.cells 3 [.agg [G, O, F]])).alloc (.cells 4 [.agg [(.sc (.int .i64 (k))), .sc (.string nm), (.sc (.int .i64 (i))), S]])).get 0 = some (.cells 3 [.agg [G, O, F]]) := get_alloc_old (by rw [AStore.get_alloc]; rfl)
 have g1 : ((empty.alloc (.cells 3 [.agg [G, O, F]])).alloc (.cells 4 [.agg [(.sc (.int .i64 (k))), .sc (.string nm), (.sc (.int .i64 (i))), S]])).get 1 = some (.cells 4 [.agg [(.sc (.int .i64 (k))), .sc (.string nm), (.sc (.int .i64 (i))), S]]) := by rw [AStore.get_alloc]; rfl
 generalize (empty.alloc (.cells 3 [.agg [G, O, F]])).alloc (.cells 4 [.agg [(.sc (.int .i64 (k))), .sc (.string nm), (.sc (.int .i64 (i))), S]]) = τ at g0 g1 ⊢
 refine vlp (ι := Nat) (fun j => [(2, .ptr 0 0 0), (3, .ptr 1 0 0), (5, (.sc (.int .i64 (j))))]) (fun j τ => j ≤ xs.length ∧ τ.get 0 = some (.cells 3 [.agg [G, O, F]]) ∧ τ.get 1 = some (.cells 4 [.agg [(.sc (.int .i64 (k))), .sc (.string nm), (.sc (.int .i64 (i))), S]]) ∧ expEs g o l (xs.take j) = 0) (fun j => xs.length - j) (fun _ => rfl) 0 ?_ ?_ ?_
 ·(repeat' (first | exact trivial | refine ⟨rfl, ?_⟩))
 ·exact ⟨Nat.zero_le _, g0, g1, rfl⟩
 clear g0 g1
 rintro j τ ⟨hj, g0, g1, h0⟩
 simp -implicitDefEqProofs only [go_sem, g1, hSn]
 ((first | refine vz2 ?_ ?_ | refine vz3 ?_ ?_) <;> intro hlt)
 ·obtain ⟨x, hx1⟩ : ∃ x, xs[j]? = some x := ⟨xs[j]'(by omega), by simp⟩
  obtain ⟨e, he, hxe⟩ := hx.at hx1
  obtain ⟨c1, c2, c3⟩ := hxe.isA.facts
  have hw := wrapS (i := j) (by omega)
  (repeat' first | ((first | refine vy1 ?_ ?_ | refine vy2 ?_ ?_ | refine vy3 ?_ ?_) <;> rintro ⟨hd, hq⟩ <;> first | (exfalso; omega) | simp -implicitDefEqProofs only [go_sem, hd] | skip) | refine vzt ?_ | refine vzf ?_ | refine vsb ?_ | refine vzb ?_ | refine vzq ?_ | simp -implicitDefEqProofs only [go_sem])
  ((try (refine Z_seq ?_; (try simp -implicitDefEqProofs only [go_sem]))); refine Z_draw (by kernel_rfl) [0, 1, 2, 3, 4, 5, 6, 7] [(7, 127), (6, 63), (5, 30), (4, 14), (3, 0), (2, 2), (1, 0), (0, 0)] (by kernel_rfl) (by kernel_rfl) ?_)
  simp -implicitDefEqProofs only [go_sem, g0, g1, hS.idx he, c1, c2, c3, kG, cG, iG, kO, cO, iO, kF, cF, iF]
  refine (rec x (List.mem_of_getElem? hx1) _ e hxe).useD ?_
  simp -implicitDefEqProofs only [go_sem]
  by_cases hz : expE g o l x = 0
  ·(repeat' first | ((first | refine vy1 ?_ ?_ | refine vy2 ?_ ?_ | refine vy3 ?_ ?_) <;> rintro ⟨hd, hq⟩ <;> first | (exfalso; omega) | simp -implicitDefEqProofs only [go_sem, hd] | skip) | refine vzt ?_ | refine vzf ?_ | refine vsb ?_ | refine vzb ?_ | refine vzq ?_ | simp -implicitDefEqProofs only [go_sem, dct hz, hw])
   exact ⟨j + 1, by dsimp only; omega, ⟨by omega, g0, g1, expEs_take hx1 h0 hz⟩, by (repeat' (first | exact trivial | refine ⟨rfl, ?_⟩))⟩
  ·(repeat' first | ((first | refine vy1 ?_ ?_ | refine vy2 ?_ ?_ | refine vy3 ?_ ?_) <;> rintro ⟨hd, hq⟩ <;> first | (exfalso; omega) | simp -implicitDefEqProofs only [go_sem, hd] | skip) | refine vzt ?_ | refine vzf ?_ | refine vsb ?_ | refine vzb ?_ | refine vzq ?_ | simp -implicitDefEqProofs only [go_sem, dcf hz])
   exact ret_int (by rw [expE_mk, expEs_eq hx1 h0 hz, if_neg hz])
 ·obtain rfl : j = xs.length := by omega
  rw [List.take_length] at h0
  rw [expE_mk, if_pos h0]
  by_cases k2 : k = 2
  ·rw [if_pos k2]
   simp -implicitDefEqProofs only [go_sem, g0, g1, dct k2, kG, cG, iG, kO, cO, iO, kF, cF, iF]
   (repeat' first | ((first | refine vy1 ?_ ?_ | refine vy2 ?_ ?_ | refine vy3 ?_ ?_) <;> rintro ⟨hd, hq⟩ <;> first | (exfalso; omega) | simp -implicitDefEqProofs only [go_sem, hd] | skip) | refine vzt ?_ | refine vzf ?_ | refine vsb ?_ | refine vzb ?_ | refine vzq ?_ | simp -implicitDefEqProofs only [go_sem, g0, g1, dct k2, kG, cG, iG, kO, cO, iO, kF, cF, iF])
   refine (inC hG (by omega) nm).use ?_
   by_cases m1 : nm ∈ g
   ·rw [dct m1]
    (repeat' first | ((first | refine vy1 ?_ ?_ | refine vy2 ?_ ?_ | refine vy3 ?_ ?_) <;> rintro ⟨hd, hq⟩ <;> first | (exfalso; omega) | simp -implicitDefEqProofs only [go_sem, hd] | skip) | refine vzt ?_ | refine vzf ?_ | refine vsb ?_ | refine vzb ?_ | refine vzq ?_ | simp -implicitDefEqProofs only [go_sem, g0, g1, dct k2])
    all_goals exact ret_int (by rw [if_pos (.inl m1)])
   ·rw [dcf m1]
    (repeat' first | ((first | refine vy1 ?_ ?_ | refine vy2 ?_ ?_ | refine vy3 ?_ ?_) <;> rintro ⟨hd, hq⟩ <;> first | (exfalso; omega) | simp -implicitDefEqProofs only [go_sem, hd] | skip) | refine vzt ?_ | refine vzf ?_ | refine vsb ?_ | refine vzb ?_ | refine vzq ?_ | simp -implicitDefEqProofs only [go_sem, g0, g1, dct k2, kG, cG, iG, kO, cO, iO, kF, cF, iF])
    refine (inC hO (by omega) nm).use ?_
    by_cases m2 : nm ∈ o
    ·rw [dct m2]
     (repeat' first | ((first | refine vy1 ?_ ?_ | refine vy2 ?_ ?_ | refine vy3 ?_ ?_) <;> rintro ⟨hd, hq⟩ <;> first | (exfalso; omega) | simp -implicitDefEqProofs only [go_sem, hd] | skip) | refine vzt ?_ | refine vzf ?_ | refine vsb ?_ | refine vzb ?_ | refine vzq ?_ | simp -implicitDefEqProofs only [go_sem, g0, g1, dct k2])
     all_goals exact ret_int (by rw [if_pos (.inr m2)])
    ·rw [dcf m2]
     (repeat' first | ((first | refine vy1 ?_ ?_ | refine vy2 ?_ ?_ | refine vy3 ?_ ?_) <;> rintro ⟨hd, hq⟩ <;> first | (exfalso; omega) | simp -implicitDefEqProofs only [go_sem, hd] | skip) | refine vzt ?_ | refine vzf ?_ | refine vsb ?_ | refine vzb ?_ | refine vzq ?_ | simp -implicitDefEqProofs only [go_sem, g0, g1, dct k2])
     all_goals exact ret_int (by rw [if_neg (fun h => h.elim m1 m2)])
  ·rw [if_neg k2]
   by_cases k3 : k = 19
   ·rw [if_pos k3]
    simp -implicitDefEqProofs only [go_sem, g0, g1, dcf k2, dct k3]
    (repeat' first | ((first | refine vy1 ?_ ?_ | refine vy2 ?_ ?_ | refine vy3 ?_ ?_) <;> rintro ⟨hd, hq⟩ <;> first | (exfalso; omega) | simp -implicitDefEqProofs only [go_sem, hd] | skip) | refine vzt ?_ | refine vzf ?_ | refine vsb ?_ | refine vzb ?_ | refine vzq ?_ | simp -implicitDefEqProofs only [go_sem, g0, g1, dcf k2, dct k3, kG, cG, iG, kO, cO, iO, kF, cF, iF, hFn])
    refine vlp (ι := Nat) (fun i => [(2, .ptr 0 0 0), (3, .ptr 1 0 0), (7, (.sc (.int .i64 (i))))]) (fun i' τ => i' ≤ l.length ∧ τ.get 0 = some (.cells 3 [.agg [G, O, F]]) ∧ τ.get 1 = some (.cells 4 [.agg [(.sc (.int .i64 (k))), .sc (.string nm), (.sc (.int .i64 (i))), S]]) ∧ fcOf (l.take i') nm = none) (fun i => l.length - i) (fun _ => rfl) 0 ?_ ?_ ?_
    ·(repeat' (first | exact trivial | refine ⟨rfl, ?_⟩))
    ·exact ⟨Nat.zero_le _, g0, g1, rfl⟩
    clear g0 g1
    rintro i' τ' ⟨hi', g0, g1, hn0⟩
    simp -implicitDefEqProofs only [go_sem, g0, hFn, kG, cG, iG, kO, cO, iO, kF, cF, iF]
    ((first | refine vz2 ?_ ?_ | refine vz3 ?_ ?_) <;> intro hilt)
    ·obtain ⟨f, hf⟩ : ∃ f, l[i']? = some f := ⟨l[i']'(by omega), by simp⟩
     obtain ⟨e, he, hfe⟩ := hFs.at' i' f hf
     obtain ⟨SP, SB, eb, rfl, hP, hB, hb', y1, y2, y3, y4⟩ := hfe
     have hPn : ∀ σ : AStore, aLen (.slice 0) SP σ = some (.sc (.int .i64 (f.ps.length))) := fun σ => by have := hP.len (σ := σ); rwa [List.length_map] at this
     have hw := wrapS (i := i') (by have := hFs.len; omega)
     have hft := fcOf_at hf hn0
     (repeat' first | ((first | refine vy1 ?_ ?_ | refine vy2 ?_ ?_ | refine vy3 ?_ ?_) <;> rintro ⟨hd, hq⟩ <;> first | (exfalso; omega) | simp -implicitDefEqProofs only [go_sem, hd] | skip) | refine vzt ?_ | refine vzf ?_ | refine vsb ?_ | refine vzb ?_ | refine vzq ?_ | simp -implicitDefEqProofs only [go_sem])
     ((try (refine Z_seq ?_; (try simp -implicitDefEqProofs only [go_sem]))); refine Z_draw (by kernel_rfl) [0, 1, 2, 3, 4, 5, 6, 7, 8] [(8, 255), (7, 64), (6, 0), (5, 31), (4, 15), (3, 7), (2, 0), (1, 1), (0, 0)] (by kernel_rfl) (by kernel_rfl) ?_)
     simp -implicitDefEqProofs only [go_sem, g0, g1, hF.idx he, kG, cG, iG, kO, cO, iO, kF, cF, iF, ba_list]
     by_cases hnm : f.nm = nm
     ·rw [if_pos hnm] at hft
      have hfo := fcOf_more hft
      (try simp -implicitDefEqProofs only [go_sem, dct hnm])
      refine vzt ?_
      simp -implicitDefEqProofs only [go_sem]
      refine Z_seq ?_
      simp -implicitDefEqProofs only [go_sem]
      ((try (refine Z_seq ?_; (try simp -implicitDefEqProofs only [go_sem]))); refine Z_draw (by kernel_rfl) [0, 1, 2, 3, 4, 5, 6, 7, 8, 9, 10] [(10, 1023), (9, 384), (8, 128), (7, 0), (6, 63), (5, 31), (4, 15), (3, 7), (2, 0), (1, 1), (0, 0)] (by kernel_rfl) (by kernel_rfl) ?_)
      by_cases hps : f.ps.length = xs.length
      ·have hps' : (f.ps.length : Int) = (xs.length : Int) := by omega
       simp -implicitDefEqProofs only [go_sem, g0, g1, hF.idx he, kG, cG, iG, kO, cO, iO, kF, cF, iF, hPn, hSn, dct hps']
       (repeat' first | ((first | refine vy1 ?_ ?_ | refine vy2 ?_ ?_ | refine vy3 ?_ ?_) <;> rintro ⟨hd, hq⟩ <;> first | (exfalso; omega) | simp -implicitDefEqProofs only [go_sem, hd] | skip) | refine vzt ?_ | refine vzf ?_ | refine vsb ?_ | refine vzb ?_ | refine vzq ?_ | simp -implicitDefEqProofs only [go_sem, dct hps'])
       all_goals exact ret_int (by rw [hfo]; simp only []; rw [if_pos hps])
      ·have hps' : ¬ (f.ps.length : Int) = (xs.length : Int) := by omega
       simp -implicitDefEqProofs only [go_sem, g0, g1, hF.idx he, kG, cG, iG, kO, cO, iO, kF, cF, iF, hPn, hSn, dcf hps']
       (repeat' first | ((first | refine vy1 ?_ ?_ | refine vy2 ?_ ?_ | refine vy3 ?_ ?_) <;> rintro ⟨hd, hq⟩ <;> first | (exfalso; omega) | simp -implicitDefEqProofs only [go_sem, hd] | skip) | refine vzt ?_ | refine vzf ?_ | refine vsb ?_ | refine vzb ?_ | refine vzq ?_ | simp -implicitDefEqProofs only [go_sem, dcf hps'])
       all_goals exact ret_int (by rw [hfo]; simp only []; rw [if_neg hps])
     ·rw [if_neg hnm] at hft
      (try simp -implicitDefEqProofs only [go_sem, dcf hnm])
      refine vzf ?_
      (repeat' first | ((first | refine vy1 ?_ ?_ | refine vy2 ?_ ?_ | refine vy3 ?_ ?_) <;> rintro ⟨hd, hq⟩ <;> first | (exfalso; omega) | simp -implicitDefEqProofs only [go_sem, hd] | skip) | refine vzt ?_ | refine vzf ?_ | refine vsb ?_ | refine vzb ?_ | refine vzq ?_ | simp -implicitDefEqProofs only [go_sem, hw])
      exact ⟨i' + 1, by dsimp only; omega, ⟨by omega, g0, g1, hft⟩, by (repeat' (first | exact trivial | refine ⟨rfl, ?_⟩))⟩
    ·obtain rfl : i' = l.length := by omega
     rw [List.take_length] at hn0
     (repeat' first | ((first | refine vy1 ?_ ?_ | refine vy2 ?_ ?_ | refine vy3 ?_ ?_) <;> rintro ⟨hd, hq⟩ <;> first | (exfalso; omega) | simp -implicitDefEqProofs only [go_sem, hd] | skip) | refine vzt ?_ | refine vzf ?_ | refine vsb ?_ | refine vzb ?_ | refine vzq ?_ | simp -implicitDefEqProofs only [go_sem])
     exact ret_int (by rw [hn0])
   ·rw [if_neg k3]
    simp -implicitDefEqProofs only [go_sem, g0, g1, dcf k2]
    (repeat' first | ((first | refine vy1 ?_ ?_ | refine vy2 ?_ ?_ | refine vy3 ?_ ?_) <;> rintro ⟨hd, hq⟩ <;> first | (exfalso; omega) | simp -implicitDefEqProofs only [go_sem, hd] | skip) | refine vzt ?_ | refine vzf ?_ | refine vsb ?_ | refine vzb ?_ | refine vzq ?_ | simp -implicitDefEqProofs only [go_sem, g0, g1, dcf k2, dcf k3])
    all_goals exact ret_int rfl
theorem expRC : ∀ {x : Ex} {w : WD} {v s : AVal} {g o : List ByteArray} {l : List Fc}, IsEx x v → IsSc g o l s → GivesV (EE w) 29 [s, v] (.sc (.int .i64 (expE g o l x)))
 | .mk _ _ _ xs, _, _, _, _, _, _, h, hs => expRStep h hs fun y hy _ _ h' => expRC (x := y) h' hs
termination_by x => sizeOf x
decreasing_by have := List.sizeOf_lt_of_mem hy; simp only [Ex.mk.sizeOf_spec]; omega
theorem take_eq {a b : List ByteArray} {j : Nat} {x y : ByteArray} (h1 : a[j]? = some x) (h2 : b[j]? = some y) (h0 : a.take j = b.take j) (he : x = y) : a.take (j + 1) = b.take (j + 1) := by
 obtain ⟨u1, u2⟩ := List.getElem?_eq_some_iff.1 h1
 obtain ⟨v1, v2⟩ := List.getElem?_eq_some_iff.1 h2
 rw [List.take_succ_eq_append_getElem u1, List.take_succ_eq_append_getElem v1, h0, u2, v2, he]
theorem sameStringsC {w : WD} {A B : AVal} {a b : List ByteArray} (hA : IsD 1 A (a.map sA)) (hB : IsD 1 B (b.map sA)) (la : a.length ≤ 281474976710656) (lb : b.length ≤ 281474976710656) :
  GivesV (EE w) 14 [A, B] (.sc (.bool (decide (a = b)))) := by
 have hAn : ∀ σ : AStore, aLen (.slice 0) A σ = some (.sc (.int .i64 (a.length))) := fun σ => by have := hA.len (σ := σ); rwa [List.length_map] at this
 have hBn : ∀ σ : AStore, aLen (.slice 0) B σ = some (.sc (.int .i64 (b.length))) := fun σ => by have := hB.len (σ := σ); rwa [List.length_map] at this
 refine GivesV.of (fun _ => .sc _) (.cons _ _ (hA.wf (wf_sA _)) (.cons _ _ (hB.wf (wf_sA _)) .nil)) 1 ?_
 refine of_14 rfl rfl rfl (by kernel_rfl) ?_
 by_cases hl : a.length = b.length
 ·have hl' : (a.length : Int) = (b.length : Int) := by omega
  simp -implicitDefEqProofs only [go_sem, hAn, hBn, dct hl']
  (repeat' first | ((first | refine vy1 ?_ ?_ | refine vy2 ?_ ?_ | refine vy3 ?_ ?_) <;> rintro ⟨hd, hq⟩ <;> first | (exfalso; omega) | simp -implicitDefEqProofs only [go_sem, hd] | skip) | refine vzt ?_ | refine vzf ?_ | refine vsb ?_ | refine vzb ?_ | refine vzq ?_ | simp -implicitDefEqProofs only [go_sem, dct hl'])
  refine vlp (ι := Nat) (fun j => [(0, A), (1, B), (5, (.sc (.int .i64 (j))))]) (fun j _ => j ≤ a.length ∧ a.take j = b.take j) (fun j => a.length - j) (fun _ => rfl) 0 ?_ ?_ ?_
  ·(repeat' (first | exact trivial | refine ⟨rfl, ?_⟩))
  ·exact ⟨Nat.zero_le _, rfl⟩
  rintro j τ ⟨hj, h0⟩
  simp -implicitDefEqProofs only [go_sem, hAn]
  ((first | refine vz2 ?_ ?_ | refine vz3 ?_ ?_) <;> intro hlt)
  ·obtain ⟨x, hx⟩ : ∃ x, a[j]? = some x := ⟨a[j]'(by omega), by simp⟩
   obtain ⟨y, hy⟩ : ∃ y, b[j]? = some y := ⟨b[j]'(by omega), by simp⟩
   have hx' : (a.map sA)[j]? = some (.sc (.string x)) := by rw [List.getElem?_map, hx]; rfl
   have hy' : (b.map sA)[j]? = some (.sc (.string y)) := by rw [List.getElem?_map, hy]; rfl
   have hw := wrapS (i := j) (by omega)
   (repeat' first | ((first | refine vy1 ?_ ?_ | refine vy2 ?_ ?_ | refine vy3 ?_ ?_) <;> rintro ⟨hd, hq⟩ <;> first | (exfalso; omega) | simp -implicitDefEqProofs only [go_sem, hd] | skip) | refine vzt ?_ | refine vzf ?_ | refine vsb ?_ | refine vzb ?_ | refine vzq ?_ | simp -implicitDefEqProofs only [go_sem])
   ((try (refine Z_seq ?_; (try simp -implicitDefEqProofs only [go_sem]))); refine Z_draw (by kernel_rfl) [0, 1, 2, 3, 4, 5, 6, 7, 8] [(8, 255), (7, 112), (6, 48), (5, 0), (4, 0), (3, 7), (2, 3), (1, 0), (0, 0)] (by kernel_rfl) (by kernel_rfl) ?_)
   by_cases hxy : x = y
   ·simp -implicitDefEqProofs only [go_sem, hA.idx hx', hB.idx hy', ba_list, dct hxy]
    refine vzf ?_
    (repeat' first | ((first | refine vy1 ?_ ?_ | refine vy2 ?_ ?_ | refine vy3 ?_ ?_) <;> rintro ⟨hd, hq⟩ <;> first | (exfalso; omega) | simp -implicitDefEqProofs only [go_sem, hd] | skip) | refine vzt ?_ | refine vzf ?_ | refine vsb ?_ | refine vzb ?_ | refine vzq ?_ | simp -implicitDefEqProofs only [go_sem, hw])
    exact ⟨j + 1, by dsimp only; omega, ⟨by omega, take_eq hx hy h0 hxy⟩, by (repeat' (first | exact trivial | refine ⟨rfl, ?_⟩))⟩
   ·simp -implicitDefEqProofs only [go_sem, hA.idx hx', hB.idx hy', ba_list, dcf hxy]
    refine vzt ?_
    (repeat' first | ((first | refine vy1 ?_ ?_ | refine vy2 ?_ ?_ | refine vy3 ?_ ?_) <;> rintro ⟨hd, hq⟩ <;> first | (exfalso; omega) | simp -implicitDefEqProofs only [go_sem, hd] | skip) | refine vzt ?_ | refine vzf ?_ | refine vsb ?_ | refine vzb ?_ | refine vzq ?_ | simp -implicitDefEqProofs only [go_sem])
    exact ret_bool (dcf (fun h => hxy (by subst h; rw [hx] at hy; exact Option.some.inj hy))).symm
  ·obtain rfl : j = a.length := by omega
   rw [List.take_length, hl, List.take_length] at h0
   (repeat' first | ((first | refine vy1 ?_ ?_ | refine vy2 ?_ ?_ | refine vy3 ?_ ?_) <;> rintro ⟨hd, hq⟩ <;> first | (exfalso; omega) | simp -implicitDefEqProofs only [go_sem, hd] | skip) | refine vzt ?_ | refine vzf ?_ | refine vsb ?_ | refine vzb ?_ | refine vzq ?_ | simp -implicitDefEqProofs only [go_sem])
   exact ret_bool (dct h0).symm
 ·have hl' : ¬ (a.length : Int) = (b.length : Int) := by omega
  simp -implicitDefEqProofs only [go_sem, hAn, hBn, dcf hl']
  (repeat' first | ((first | refine vy1 ?_ ?_ | refine vy2 ?_ ?_ | refine vy3 ?_ ?_) <;> rintro ⟨hd, hq⟩ <;> first | (exfalso; omega) | simp -implicitDefEqProofs only [go_sem, hd] | skip) | refine vzt ?_ | refine vzf ?_ | refine vsb ?_ | refine vzb ?_ | refine vzq ?_ | simp -implicitDefEqProofs only [go_sem, dcf hl'])
  exact ret_bool (dcf (fun h => hl (by rw [h]))).symm
theorem sameNamesRC {w : WD} {A B : AVal} {a b : List ByteArray} (hA : IsD 1 A (a.map sA)) (hB : IsD 1 B (b.map sA)) (la : a.length ≤ 281474976710656) (lb : b.length ≤ 281474976710656) :
  GivesV (EE w) 30 [A, B] (.sc (.bool (decide (a = b)))) := by
 have hAn : ∀ σ : AStore, aLen (.slice 0) A σ = some (.sc (.int .i64 (a.length))) := fun σ => by have := hA.len (σ := σ); rwa [List.length_map] at this
 have hBn : ∀ σ : AStore, aLen (.slice 0) B σ = some (.sc (.int .i64 (b.length))) := fun σ => by have := hB.len (σ := σ); rwa [List.length_map] at this
 refine GivesV.of (fun _ => .sc _) (.cons _ _ (hA.wf (wf_sA _)) (.cons _ _ (hB.wf (wf_sA _)) .nil)) 1 ?_
 refine of_30 rfl rfl rfl (by kernel_rfl) ?_
 simp -implicitDefEqProofs only [go_sem]
 refine vlp (ι := Nat) (fun j => [(0, A), (1, B), (5, (.sc (.int .i64 (j))))]) (fun j _ => j ≤ a.length ∧ j ≤ b.length ∧ a.take j = b.take j) (fun j => a.length - j) (fun _ => rfl) 0 ?_ ?_ ?_
 ·(repeat' (first | exact trivial | refine ⟨rfl, ?_⟩))
 ·exact ⟨Nat.zero_le _, Nat.zero_le _, rfl⟩
 rintro j τ ⟨hj, hjb, h0⟩
 by_cases hlt : j < a.length ∧ j < b.length
 ·have u1 : (j : Int) < (a.length : Int) := by omega
  have u2 : (j : Int) < (b.length : Int) := by omega
  obtain ⟨x, hx⟩ : ∃ x, a[j]? = some x := ⟨a[j]'(by omega), by simp⟩
  obtain ⟨y, hy⟩ : ∃ y, b[j]? = some y := ⟨b[j]'(by omega), by simp⟩
  have hx' : (a.map sA)[j]? = some (.sc (.string x)) := by rw [List.getElem?_map, hx]; rfl
  have hy' : (b.map sA)[j]? = some (.sc (.string y)) := by rw [List.getElem?_map, hy]; rfl
  have hw := wrapS (i := j) (by omega)
  simp -implicitDefEqProofs only [go_sem, hAn, hBn, dct u1, dct u2]
  (repeat' first | ((first | refine vy1 ?_ ?_ | refine vy2 ?_ ?_ | refine vy3 ?_ ?_) <;> rintro ⟨hd, hq⟩ <;> first | (exfalso; omega) | simp -implicitDefEqProofs only [go_sem, hd] | skip) | refine vzt ?_ | refine vzf ?_ | refine vsb ?_ | refine vzb ?_ | refine vzq ?_ | simp -implicitDefEqProofs only [go_sem, hAn, hBn, dct u1, dct u2])
  ((try (refine Z_seq ?_; (try simp -implicitDefEqProofs only [go_sem]))); refine Z_draw (by kernel_rfl) [0, 1, 2, 3, 4, 5, 6, 7, 8] [(8, 255), (7, 112), (6, 48), (5, 0), (4, 0), (3, 7), (2, 3), (1, 0), (0, 0)] (by kernel_rfl) (by kernel_rfl) ?_)
  by_cases hxy : x = y
  ·simp -implicitDefEqProofs only [go_sem, hA.idx hx', hB.idx hy', ba_list, dct hxy]
   refine vzf ?_
   (repeat' first | ((first | refine vy1 ?_ ?_ | refine vy2 ?_ ?_ | refine vy3 ?_ ?_) <;> rintro ⟨hd, hq⟩ <;> first | (exfalso; omega) | simp -implicitDefEqProofs only [go_sem, hd] | skip) | refine vzt ?_ | refine vzf ?_ | refine vsb ?_ | refine vzb ?_ | refine vzq ?_ | simp -implicitDefEqProofs only [go_sem, hw])
   exact ⟨j + 1, by dsimp only; omega, ⟨by omega, by omega, take_eq hx hy h0 hxy⟩, by (repeat' (first | exact trivial | refine ⟨rfl, ?_⟩))⟩
  ·simp -implicitDefEqProofs only [go_sem, hA.idx hx', hB.idx hy', ba_list, dcf hxy]
   refine vzt ?_
   (repeat' first | ((first | refine vy1 ?_ ?_ | refine vy2 ?_ ?_ | refine vy3 ?_ ?_) <;> rintro ⟨hd, hq⟩ <;> first | (exfalso; omega) | simp -implicitDefEqProofs only [go_sem, hd] | skip) | refine vzt ?_ | refine vzf ?_ | refine vsb ?_ | refine vzb ?_ | refine vzq ?_ | simp -implicitDefEqProofs only [go_sem])
   exact ret_bool (dcf (fun h => hxy (by subst h; rw [hx] at hy; exact Option.some.inj hy))).symm
 ·by_cases hl : a.length = b.length
  ·have hja : j = a.length := by omega
   have hab : a = b := by
    rw [hja, List.take_length, hl, List.take_length] at h0
    exact h0
   rw [dct hab]
   simp -implicitDefEqProofs only [go_sem, hAn, hBn]
   (repeat' first | ((first | refine vy1 ?_ ?_ | refine vy2 ?_ ?_ | refine vy3 ?_ ?_) <;> rintro ⟨hd, hq⟩ <;> first | (exfalso; omega) | simp -implicitDefEqProofs only [go_sem, hd] | skip) | refine vzt ?_ | refine vzf ?_ | refine vsb ?_ | refine vzb ?_ | refine vzq ?_ | simp -implicitDefEqProofs only [go_sem, hAn, hBn])
   all_goals exact ret_bool (by first | rfl | exact dct (by omega))
  ·rw [dcf (fun h : a = b => hl (by rw [h]))]
   simp -implicitDefEqProofs only [go_sem, hAn, hBn]
   (repeat' first | ((first | refine vy1 ?_ ?_ | refine vy2 ?_ ?_ | refine vy3 ?_ ?_) <;> rintro ⟨hd, hq⟩ <;> first | (exfalso; omega) | simp -implicitDefEqProofs only [go_sem, hd] | skip) | refine vzt ?_ | refine vzf ?_ | refine vsb ?_ | refine vzb ?_ | refine vzq ?_ | simp -implicitDefEqProofs only [go_sem, hAn, hBn])
   all_goals exact ret_bool (by first | rfl | exact dcf (by omega))
mutual
def sameE : Ex → Ex → Bool
 | .mk k nm i xs, .mk k' nm' i' ys => decide (k = k') && decide (nm = nm') && decide (i = i') && decide (xs.length = ys.length) && sameEs xs ys
def sameEs : List Ex → List Ex → Bool
 | [], [] => true
 | x :: xs, y :: ys => sameE x y && sameEs xs ys
 | _, _ => false
end
mutual
theorem sameE_self : ∀ x : Ex, sameE x x = true
 | .mk k nm i xs => by simp [sameE, sameEs_self xs]
theorem sameEs_self : ∀ xs : List Ex, sameEs xs xs = true
 | [] => rfl
 | x :: xs => by simp [sameEs, sameE_self x, sameEs_self xs]
end
theorem sameEs_at : ∀ {xs ys : List Ex} {j : Nat} {x y : Ex}, xs.length = ys.length → xs[j]? = some x → ys[j]? = some y → sameEs (xs.take j) (ys.take j) = true → sameE x y = true → sameEs (xs.take (j + 1)) (ys.take (j + 1)) = true
  | [], _, _, _, _, _, h, _, _, _ => by simp at h
  | _ :: _, [], _, _, _, h, _, _, _, _ => by simp at h
  | a :: xs, b :: ys, 0, x, y, h, h1, h2, h0, he => by
      simp at h1 h2; subst h1; subst h2
      simp [sameEs, he]
  | a :: xs, b :: ys, j + 1, x, y, h, h1, h2, h0, he => by
      simp only [List.take_succ_cons, sameEs, Bool.and_eq_true] at h0 ⊢
      exact ⟨h0.1, sameEs_at (by simpa using h) (by simpa using h1) (by simpa using h2) h0.2 he⟩
theorem sameEs_no : ∀ {xs ys : List Ex} {j : Nat} {x y : Ex}, xs[j]? = some x → ys[j]? = some y → sameE x y = false → sameEs xs ys = false
  | [], _, _, _, _, h, _, _ => by simp at h
  | _ :: _, [], _, _, _, _, h, _ => by simp at h
  | a :: xs, b :: ys, 0, x, y, h1, h2, he => by
      simp at h1 h2; subst h1; subst h2
      simp [sameEs, he]
  | a :: xs, b :: ys, j + 1, x, y, h1, h2, he => by
      simp only [sameEs, sameEs_no (xs := xs) (ys := ys) (j := j) (by simpa using h1) (by simpa using h2) he, Bool.and_false]
theorem sameRStep {k i k' i' : Int} {nm nm' : ByteArray} {xs ys : List Ex} {w : WD} {u v : AVal} (hu : IsEx (.mk k nm i xs) u) (hv : IsEx (.mk k' nm' i' ys) v)
  (rec : ∀ x ∈ xs, ∀ (y : Ex) (w : WD) (u v : AVal), IsEx x u → IsEx y v → GivesV (EE w) 54 [u, v] (.sc (.bool (sameE x y)))) :
  GivesV (EE w) 54 [u, v] (.sc (.bool (sameE (.mk k nm i xs) (.mk k' nm' i' ys)))) := by
 have hwu := hu.wf
 have hwv := hv.wf
 simp only [IsEx] at hu hv
 obtain ⟨S, els, rfl, hS, hx, hk, hi, hn, hl⟩ := hu
 obtain ⟨S', els', rfl, hS', hx', hk', hi', hn', hl'⟩ := hv
 have hlen := hx.len
 have hlen' := hx'.len
 have hSn := fun σ : AStore => hS.lenN hlen (σ := σ)
 have hSn' := fun σ : AStore => hS'.lenN hlen' (σ := σ)
 have kS := hS.fit
 have cS := hS.cells
 have iS := hS.isCell
 have kS' := hS'.fit
 have cS' := hS'.cells
 have iS' := hS'.isCell
 simp only [sameE]
 refine GivesV.of (fun _ => .sc _) (.cons _ _ hwu (.cons _ _ hwv .nil)) 1 ?_
 refine of_54 rfl rfl rfl (by kernel_rfl) ?_
 simp -implicitDefEqProofs only [go_sem, kS, cS, iS, kS', cS', iS']
 have g0 : ((empty.alloc (.cells 4 [.agg [(.sc (.int .i64 (k))), .sc (.string nm), (.sc (.int .i64 (i))), S]])).alloc (.cells 4 [.agg [(.sc (.int .i64 (k'))), .sc (.string nm'), (.sc (.int .i64 (i'))), S']])).get 0 = some (.cells 4 [.agg [(.sc (.int .i64 (k))), .sc (.string nm), (.sc (.int .i64 (i))), S]]) := get_alloc_old (by rw [AStore.get_alloc]; rfl)
 have g1 : ((empty.alloc (.cells 4 [.agg [(.sc (.int .i64 (k))), .sc (.string nm), (.sc (.int .i64 (i))), S]])).alloc (.cells 4 [.agg [(.sc (.int .i64 (k'))), .sc (.string nm'), (.sc (.int .i64 (i'))), S']])).get 1 = some (.cells 4 [.agg [(.sc (.int .i64 (k'))), .sc (.string nm'), (.sc (.int .i64 (i'))), S']]) := by rw [AStore.get_alloc]; rfl
 generalize (empty.alloc (.cells 4 [.agg [(.sc (.int .i64 (k))), .sc (.string nm), (.sc (.int .i64 (i))), S]])).alloc (.cells 4 [.agg [(.sc (.int .i64 (k'))), .sc (.string nm'), (.sc (.int .i64 (i'))), S']]) = τ at g0 g1 ⊢
 by_cases c1 : k = k'
 ·by_cases c2 : nm = nm'
  ·by_cases c3 : i = i'
   ·by_cases c4 : xs.length = ys.length
    ·have c4' : (xs.length : Int) = (ys.length : Int) := by omega
     have hval : (decide (k = k') && decide (nm = nm') && decide (i = i') && decide (xs.length = ys.length) && sameEs xs ys) = sameEs xs ys := by
      rw [dct c1, dct c2, dct c3, dct c4]; rfl
     rw [hval]
     simp -implicitDefEqProofs only [go_sem, g0, g1, ba_list, hSn, hSn', dct c1, dct c2, dct c3, dct c4']
     (repeat' first | ((first | refine vy1 ?_ ?_ | refine vy2 ?_ ?_ | refine vy3 ?_ ?_) <;> rintro ⟨hd, hq⟩ <;> first | (exfalso; omega) | simp -implicitDefEqProofs only [go_sem, hd] | skip) | refine vzt ?_ | refine vzf ?_ | refine vsb ?_ | refine vzb ?_ | refine vzq ?_ | simp -implicitDefEqProofs only [go_sem, g0, g1, ba_list, hSn, hSn', dct c1, dct c2, dct c3, dct c4'])
     refine vlp (ι := Nat) (fun j => [(2, .ptr 0 0 0), (3, .ptr 1 0 0), (5, (.sc (.int .i64 (j))))]) (fun j τ => j ≤ xs.length ∧ τ.get 0 = some (.cells 4 [.agg [(.sc (.int .i64 (k))), .sc (.string nm), (.sc (.int .i64 (i))), S]]) ∧ τ.get 1 = some (.cells 4 [.agg [(.sc (.int .i64 (k'))), .sc (.string nm'), (.sc (.int .i64 (i'))), S']]) ∧ sameEs (xs.take j) (ys.take j) = true) (fun j => xs.length - j) (fun _ => rfl) 0 ?_ ?_ ?_
     ·(repeat' (first | exact trivial | refine ⟨rfl, ?_⟩))
     ·exact ⟨Nat.zero_le _, g0, g1, rfl⟩
     clear g0 g1
     rintro j τ' ⟨hj, g0, g1, h0⟩
     simp -implicitDefEqProofs only [go_sem, g0, hSn]
     ((first | refine vz2 ?_ ?_ | refine vz3 ?_ ?_) <;> intro hlt)
     ·obtain ⟨x, hx1⟩ : ∃ x, xs[j]? = some x := ⟨xs[j]'(by omega), by simp⟩
      obtain ⟨y, hy1⟩ : ∃ y, ys[j]? = some y := ⟨ys[j]'(by omega), by simp⟩
      obtain ⟨e, he, hxe⟩ := hx.at hx1
      obtain ⟨e', he', hye⟩ := hx'.at hy1
      obtain ⟨d1, d2, d3⟩ := hxe.isA.facts
      obtain ⟨d1', d2', d3'⟩ := hye.isA.facts
      have hw := wrapS (i := j) (by omega)
      (repeat' first | ((first | refine vy1 ?_ ?_ | refine vy2 ?_ ?_ | refine vy3 ?_ ?_) <;> rintro ⟨hd, hq⟩ <;> first | (exfalso; omega) | simp -implicitDefEqProofs only [go_sem, hd] | skip) | refine vzt ?_ | refine vzf ?_ | refine vsb ?_ | refine vzb ?_ | refine vzq ?_ | simp -implicitDefEqProofs only [go_sem])
      ((try (refine Z_seq ?_; (try simp -implicitDefEqProofs only [go_sem]))); refine Z_draw (by kernel_rfl) [0, 1, 2, 3, 4, 5, 6, 7, 8, 9, 10, 11] [(11, 2047), (10, 1023), (9, 480), (8, 224), (7, 0), (6, 32), (5, 0), (4, 15), (3, 7), (2, 0), (1, 1), (0, 0)] (by kernel_rfl) (by kernel_rfl) ?_)
      simp -implicitDefEqProofs only [go_sem, g0, g1, hS.idx he, hS'.idx he', d1, d2, d3, d1', d2', d3']
      refine (rec x (List.mem_of_getElem? hx1) y _ e e' hxe hye).useD ?_
      simp -implicitDefEqProofs only [go_sem]
      cases hb : sameE x y with
      | false =>
       (repeat' first | ((first | refine vy1 ?_ ?_ | refine vy2 ?_ ?_ | refine vy3 ?_ ?_) <;> rintro ⟨hd, hq⟩ <;> first | (exfalso; omega) | simp -implicitDefEqProofs only [go_sem, hd] | skip) | refine vzt ?_ | refine vzf ?_ | refine vsb ?_ | refine vzb ?_ | refine vzq ?_ | simp -implicitDefEqProofs only [go_sem, hb])
       exact ret_bool (sameEs_no hx1 hy1 hb).symm
      | true =>
       (repeat' first | ((first | refine vy1 ?_ ?_ | refine vy2 ?_ ?_ | refine vy3 ?_ ?_) <;> rintro ⟨hd, hq⟩ <;> first | (exfalso; omega) | simp -implicitDefEqProofs only [go_sem, hd] | skip) | refine vzt ?_ | refine vzf ?_ | refine vsb ?_ | refine vzb ?_ | refine vzq ?_ | simp -implicitDefEqProofs only [go_sem, hb, hw])
       exact ⟨j + 1, by dsimp only; omega, ⟨by omega, g0, g1, sameEs_at c4 hx1 hy1 h0 hb⟩, by (repeat' (first | exact trivial | refine ⟨rfl, ?_⟩))⟩
     ·obtain rfl : j = xs.length := by omega
      rw [List.take_length, c4, List.take_length] at h0
      (repeat' first | ((first | refine vy1 ?_ ?_ | refine vy2 ?_ ?_ | refine vy3 ?_ ?_) <;> rintro ⟨hd, hq⟩ <;> first | (exfalso; omega) | simp -implicitDefEqProofs only [go_sem, hd] | skip) | refine vzt ?_ | refine vzf ?_ | refine vsb ?_ | refine vzb ?_ | refine vzq ?_ | simp -implicitDefEqProofs only [go_sem])
      exact ret_bool h0.symm
    ·have c4' : ¬ (xs.length : Int) = (ys.length : Int) := by omega
     simp -implicitDefEqProofs only [go_sem, g0, g1, ba_list, hSn, hSn', dct c1, dct c2, dct c3, dcf c4']
     (repeat' first | ((first | refine vy1 ?_ ?_ | refine vy2 ?_ ?_ | refine vy3 ?_ ?_) <;> rintro ⟨hd, hq⟩ <;> first | (exfalso; omega) | simp -implicitDefEqProofs only [go_sem, hd] | skip) | refine vzt ?_ | refine vzf ?_ | refine vsb ?_ | refine vzb ?_ | refine vzq ?_ | simp -implicitDefEqProofs only [go_sem, g0, g1, ba_list, hSn, hSn', dct c1, dct c2, dct c3, dcf c4'])
     exact ret_bool (by simp [c4])
   ·simp -implicitDefEqProofs only [go_sem, g0, g1, ba_list, hSn, hSn', dct c1, dct c2, dcf c3]
    (repeat' first | ((first | refine vy1 ?_ ?_ | refine vy2 ?_ ?_ | refine vy3 ?_ ?_) <;> rintro ⟨hd, hq⟩ <;> first | (exfalso; omega) | simp -implicitDefEqProofs only [go_sem, hd] | skip) | refine vzt ?_ | refine vzf ?_ | refine vsb ?_ | refine vzb ?_ | refine vzq ?_ | simp -implicitDefEqProofs only [go_sem, g0, g1, ba_list, hSn, hSn', dct c1, dct c2, dcf c3])
    exact ret_bool (by simp [c3])
  ·simp -implicitDefEqProofs only [go_sem, g0, g1, ba_list, hSn, hSn', dct c1, dcf c2]
   (repeat' first | ((first | refine vy1 ?_ ?_ | refine vy2 ?_ ?_ | refine vy3 ?_ ?_) <;> rintro ⟨hd, hq⟩ <;> first | (exfalso; omega) | simp -implicitDefEqProofs only [go_sem, hd] | skip) | refine vzt ?_ | refine vzf ?_ | refine vsb ?_ | refine vzb ?_ | refine vzq ?_ | simp -implicitDefEqProofs only [go_sem, g0, g1, ba_list, hSn, hSn', dct c1, dcf c2])
   exact ret_bool (by simp [c2])
 ·simp -implicitDefEqProofs only [go_sem, g0, g1, ba_list, hSn, hSn', dcf c1]
  (repeat' first | ((first | refine vy1 ?_ ?_ | refine vy2 ?_ ?_ | refine vy3 ?_ ?_) <;> rintro ⟨hd, hq⟩ <;> first | (exfalso; omega) | simp -implicitDefEqProofs only [go_sem, hd] | skip) | refine vzt ?_ | refine vzf ?_ | refine vsb ?_ | refine vzb ?_ | refine vzq ?_ | simp -implicitDefEqProofs only [go_sem, g0, g1, ba_list, hSn, hSn', dcf c1])
  exact ret_bool (by simp [c1])
theorem sameRC : ∀ {x y : Ex} {w : WD} {u v : AVal}, IsEx x u → IsEx y v → GivesV (EE w) 54 [u, v] (.sc (.bool (sameE x y)))
 | .mk _ _ _ xs, .mk _ _ _ _, _, _, _, h, h' => sameRStep h h' fun x hx y _ _ _ h1 h2 => sameRC (x := x) h1 h2
termination_by x => sizeOf x
decreasing_by have := List.sizeOf_lt_of_mem hx; simp only [Ex.mk.sizeOf_spec]; omega
end Abs
end
