/-
  Functions of the program walked: each is shown to compute a plain function (V1).
-/
import Derived.Test.YtggndcghabholaaNU2
import Derived.Test.YtggndcghabholaaNTF
import Derived.Test.YtggndcghabholaaNT13
import Derived.Test.YtggndcghabholaaNAbsTyW
import Derived.Test.YtggndcghabholaaNAbsEn
noncomputable section
namespace Abs
set_option linter.unusedSimpArgs false
set_option linter.unusedVariables false
set_option maxRecDepth 100000
set_option maxHeartbeats 2000000
open Go Go.Proofs
theorem makesSs_take {n0 : ByteArray} : ∀ {xs : List St} {j : Nat} {x : St}, xs[j]? = some x → makesSs n0 (xs.take j) = false → makesS n0 x = false → makesSs n0 (xs.take (j + 1)) = false
  | [], _, _, h, _, _ => by simp at h
  | y :: xs, 0, x, h, _, h1 => by simp at h; subst h; simp [makesSs, h1]
  | y :: xs, j + 1, x, h, h0, h1 => by
      simp only [List.take_succ_cons, makesSs, Bool.or_eq_false_iff] at h0 ⊢
      exact ⟨h0.1, makesSs_take (by simpa using h) h0.2 h1⟩
theorem makesSs_at {n0 : ByteArray} : ∀ {xs : List St} {j : Nat} {x : St}, xs[j]? = some x → makesS n0 x = true → makesSs n0 xs = true
  | [], _, _, h, _ => by simp at h
  | y :: xs, 0, x, h, h1 => by simp at h; subst h; simp [makesSs, h1]
  | y :: xs, j + 1, x, h, h1 => by
      simp only [makesSs, makesSs_at (xs := xs) (j := j) (by simpa using h) h1, Bool.or_true]
set_option maxHeartbeats 8000000 in
theorem makesStep {n0 : ByteArray} {xs : List St} {w : WD} {L : AVal} {els : List AVal} (hL : IsD 8 L els) (hx : IsSts xs els) (hlen : els.length ≤ 281474976710656)
  (rec : ∀ x ∈ xs, ∀ (ys : List St), (∀ k nm v b e, x = .mk k nm v b e → ys = b ∨ ys = e) → ∀ (w : WD) (L : AVal) (els : List AVal), IsD 8 L els → IsSts ys els → els.length ≤ 281474976710656 →
   GivesV (EE w) 35 [L, sA n0] (AVal.sc (Value.bool (makesSs n0 ys)))) : GivesV (EE w) 35 [L, sA n0] (AVal.sc (Value.bool (makesSs n0 xs))) := by
 have hln := hx.len
 have hLn := fun σ : AStore => hL.lenN hln (σ := σ)
 refine GivesV.of (fun _ => .sc _) (.cons _ _ (hL.wf hx.wf) (.cons _ _ (.sc _) .nil)) 1 ?_
 refine of_35 rfl rfl rfl (by kernel_rfl) ?_
 simp -implicitDefEqProofs only [go_sem, sA]
 refine vlp (ι := Nat) (fun j => [(0, L), (1, .sc (.string n0)), (5, (AVal.sc (Value.int IntKind.i64 (j))))]) (fun j _ => j ≤ xs.length ∧ makesSs n0 (xs.take j) = false) (fun j => xs.length - j) (fun _ => rfl) 0 ?_ ?_ ?_
 ·(repeat' (first | exact trivial | refine ⟨rfl, ?_⟩))
 ·exact ⟨Nat.zero_le _, rfl⟩
 rintro j τ ⟨hj, h0⟩
 simp -implicitDefEqProofs only [go_sem, hLn]
 ((first | refine vz2 ?_ ?_ | refine vz3 ?_ ?_) <;> intro hlt)
 ·obtain ⟨x, hx1⟩ : ∃ x, xs[j]? = some x := ⟨xs[j]'(by omega), by simp⟩
  obtain ⟨e, he, hxe⟩ := hx.at hx1
  have hmem := List.mem_of_getElem? hx1
  have hno := makesSs_take (n0 := n0) hx1 h0
  have hyes := makesSs_at (n0 := n0) hx1
  obtain ⟨k, nm, v, body, els2⟩ := x
  simp only [makesS] at hno hyes
  simp only [IsSt] at hxe
  obtain ⟨SA, SB, SE, ea, eb, ee, rfl, hA, ha, hB, hb, hE, hee, h1, h2, h3, h4, h5, h6, h7, h8⟩ := hxe
  have hw := wrapS (i := j) (by omega)
  have rB := fun w : WD => rec _ hmem body (fun _ _ _ _ _ h => by cases h; exact .inl rfl) w SB eb hB hb h7
  have rE := fun w : WD => rec _ hmem els2 (fun _ _ _ _ _ h => by cases h; exact .inr rfl) w SE ee hE hee h8
  by_cases hk : k = 1 ∧ nm = n0
  ·have hy : makesSs n0 xs = true := hyes (by simp [hk.1, hk.2])
   simp -implicitDefEqProofs only [go_sem, hL.idx he, ba_list, dct hk.1, dct hk.2]
   (repeat' first | ((first | refine vy1 ?_ ?_ | refine vy2 ?_ ?_ | refine vy3 ?_ ?_) <;> rintro ⟨hd, hq⟩ <;> first | (exfalso; omega) | simp -implicitDefEqProofs only [go_sem, hd] | skip) | refine vzt ?_ | refine vzf ?_ | refine vsb ?_ | refine vzb ?_ | refine vzq ?_ | simp -implicitDefEqProofs only [go_sem, hL.idx he, ba_list, dct hk.1, dct hk.2])
   exact ret_bool hy.symm
  ·have hkn : (decide (k = 1) && decide (nm = n0)) = false := by
    rw [Bool.and_eq_false_iff]
    by_cases h : k = 1
    ·exact .inr (dcf fun h' => hk ⟨h, h'⟩)
    ·exact .inl (dcf h)
   rw [hkn, Bool.false_or] at hno hyes
   by_cases hk1 : k = 1
   ·have hk2 : ¬ nm = n0 := fun h => hk ⟨hk1, h⟩
    simp -implicitDefEqProofs only [go_sem, hL.idx he, ba_list, dct hk1, dcf hk2]
    (repeat' first | ((first | refine vy1 ?_ ?_ | refine vy2 ?_ ?_ | refine vy3 ?_ ?_) <;> rintro ⟨hd, hq⟩ <;> first | (exfalso; omega) | simp -implicitDefEqProofs only [go_sem, hd] | skip) | refine vzt ?_ | refine vzf ?_ | refine vsb ?_ | refine vzb ?_ | refine vzq ?_ | simp -implicitDefEqProofs only [go_sem, hL.idx he, ba_list, dct hk1, dcf hk2])
    refine (rB _).use ?_
    cases hb1 : makesSs n0 body with
    | true =>
     (repeat' first | ((first | refine vy1 ?_ ?_ | refine vy2 ?_ ?_ | refine vy3 ?_ ?_) <;> rintro ⟨hd, hq⟩ <;> first | (exfalso; omega) | simp -implicitDefEqProofs only [go_sem, hd] | skip) | refine vzt ?_ | refine vzf ?_ | refine vsb ?_ | refine vzb ?_ | refine vzq ?_ | simp -implicitDefEqProofs only [go_sem, hb1])
     exact ret_bool (hyes (by simp [hb1])).symm
    | false =>
     (repeat' first | ((first | refine vy1 ?_ ?_ | refine vy2 ?_ ?_ | refine vy3 ?_ ?_) <;> rintro ⟨hd, hq⟩ <;> first | (exfalso; omega) | simp -implicitDefEqProofs only [go_sem, hd] | skip) | refine vzt ?_ | refine vzf ?_ | refine vsb ?_ | refine vzb ?_ | refine vzq ?_ | simp -implicitDefEqProofs only [go_sem, hb1, hL.idx he])
     refine (rE _).use ?_
     cases hb2 : makesSs n0 els2 with
     | true =>
      (repeat' first | ((first | refine vy1 ?_ ?_ | refine vy2 ?_ ?_ | refine vy3 ?_ ?_) <;> rintro ⟨hd, hq⟩ <;> first | (exfalso; omega) | simp -implicitDefEqProofs only [go_sem, hd] | skip) | refine vzt ?_ | refine vzf ?_ | refine vsb ?_ | refine vzb ?_ | refine vzq ?_ | simp -implicitDefEqProofs only [go_sem, hb2])
      exact ret_bool (hyes (by simp [hb2])).symm
     | false =>
      (repeat' first | ((first | refine vy1 ?_ ?_ | refine vy2 ?_ ?_ | refine vy3 ?_ ?_) <;> rintro ⟨hd, hq⟩ <;> first | (exfalso; omega) | simp -implicitDefEqProofs only [go_sem, hd] | skip) | refine vzt ?_ | refine vzf ?_ | refine vsb ?_ | refine vzb ?_ | refine vzq ?_ | simp -implicitDefEqProofs only [go_sem, hb2, hw])
      exact ⟨j + 1, by dsimp only; omega, ⟨by omega, hno (by simp [hb1, hb2])⟩, by (repeat' (first | exact trivial | refine ⟨rfl, ?_⟩))⟩
   ·simp -implicitDefEqProofs only [go_sem, hL.idx he, ba_list, dcf hk1]
    (repeat' first | ((first | refine vy1 ?_ ?_ | refine vy2 ?_ ?_ | refine vy3 ?_ ?_) <;> rintro ⟨hd, hq⟩ <;> first | (exfalso; omega) | simp -implicitDefEqProofs only [go_sem, hd] | skip) | refine vzt ?_ | refine vzf ?_ | refine vsb ?_ | refine vzb ?_ | refine vzq ?_ | simp -implicitDefEqProofs only [go_sem, hL.idx he, ba_list, dcf hk1])
    refine (rB _).use ?_
    cases hb1 : makesSs n0 body with
    | true =>
     (repeat' first | ((first | refine vy1 ?_ ?_ | refine vy2 ?_ ?_ | refine vy3 ?_ ?_) <;> rintro ⟨hd, hq⟩ <;> first | (exfalso; omega) | simp -implicitDefEqProofs only [go_sem, hd] | skip) | refine vzt ?_ | refine vzf ?_ | refine vsb ?_ | refine vzb ?_ | refine vzq ?_ | simp -implicitDefEqProofs only [go_sem, hb1])
     exact ret_bool (hyes (by simp [hb1])).symm
    | false =>
     (repeat' first | ((first | refine vy1 ?_ ?_ | refine vy2 ?_ ?_ | refine vy3 ?_ ?_) <;> rintro ⟨hd, hq⟩ <;> first | (exfalso; omega) | simp -implicitDefEqProofs only [go_sem, hd] | skip) | refine vzt ?_ | refine vzf ?_ | refine vsb ?_ | refine vzb ?_ | refine vzq ?_ | simp -implicitDefEqProofs only [go_sem, hb1, hL.idx he])
     refine (rE _).use ?_
     cases hb2 : makesSs n0 els2 with
     | true =>
      (repeat' first | ((first | refine vy1 ?_ ?_ | refine vy2 ?_ ?_ | refine vy3 ?_ ?_) <;> rintro ⟨hd, hq⟩ <;> first | (exfalso; omega) | simp -implicitDefEqProofs only [go_sem, hd] | skip) | refine vzt ?_ | refine vzf ?_ | refine vsb ?_ | refine vzb ?_ | refine vzq ?_ | simp -implicitDefEqProofs only [go_sem, hb2])
      exact ret_bool (hyes (by simp [hb2])).symm
     | false =>
      (repeat' first | ((first | refine vy1 ?_ ?_ | refine vy2 ?_ ?_ | refine vy3 ?_ ?_) <;> rintro ⟨hd, hq⟩ <;> first | (exfalso; omega) | simp -implicitDefEqProofs only [go_sem, hd] | skip) | refine vzt ?_ | refine vzf ?_ | refine vsb ?_ | refine vzb ?_ | refine vzq ?_ | simp -implicitDefEqProofs only [go_sem, hb2, hw])
      exact ⟨j + 1, by dsimp only; omega, ⟨by omega, hno (by simp [hb1, hb2])⟩, by (repeat' (first | exact trivial | refine ⟨rfl, ?_⟩))⟩
 ·obtain rfl : j = xs.length := by omega
  rw [List.take_length] at h0
  (repeat' first | ((first | refine vy1 ?_ ?_ | refine vy2 ?_ ?_ | refine vy3 ?_ ?_) <;> rintro ⟨hd, hq⟩ <;> first | (exfalso; omega) | simp -implicitDefEqProofs only [go_sem, hd] | skip) | refine vzt ?_ | refine vzf ?_ | refine vsb ?_ | refine vzb ?_ | refine vzq ?_ | simp -implicitDefEqProofs only [go_sem])
  exact ret_bool h0.symm
theorem makesC : ∀ {N : Nat} {n0 : ByteArray} {xs : List St} {w : WD} {L : AVal} {els : List AVal}, nodesSs xs ≤ N → IsD 8 L els → IsSts xs els → els.length ≤ 281474976710656 → GivesV (EE w) 35 [L, sA n0] (AVal.sc (Value.bool (makesSs n0 xs)))
  | 0, n0, xs, w, L, els, hN, hL, hx, hln => makesStep hL hx hln fun x hx => by
      obtain ⟨j, hj⟩ := List.getElem?_of_mem hx
      have h1 := nodesS_at hj
      obtain ⟨k, nm, v, b, e⟩ := x
      have := nodesE_pos v
      simp only [nodesS] at h1
      omega
  | N + 1, n0, xs, w, L, els, hN, hL, hx, hln => makesStep hL hx hln fun x hx ys hy w L els a b' c => by
      obtain ⟨j, hj⟩ := List.getElem?_of_mem hx
      have h1 := nodesS_at hj
      obtain ⟨k, nm, v, b, e⟩ := x
      have := nodesE_pos v
      simp only [nodesS] at h1
      rcases hy _ _ _ _ _ rfl with rfl | rfl
      · exact makesC (N := N) (by omega) a b' c
      · exact makesC (N := N) (by omega) a b' c
set_option maxHeartbeats 8000000 in
theorem usedC {n0 : ByteArray} {fs : List Fc} {w : WD} {L : AVal} {els : List AVal} (hL : IsD 3 L els) (hl : IsFcs fs els) (hlen : els.length ≤ 281474976710656) :
  GivesV (EE w) 17 [L, sA n0] (AVal.sc (Value.bool (usedF n0 fs))) := by
 have hln := hl.len
 have hLn := fun σ : AStore => hL.lenN hln (σ := σ)
 refine GivesV.of (fun _ => .sc _) (.cons _ _ (hL.wf hl.wf) (.cons _ _ (.sc _) .nil)) 1 ?_
 refine of_17 rfl rfl rfl (by kernel_rfl) ?_
 simp -implicitDefEqProofs only [go_sem, sA]
 refine vlp (ι := Nat) (fun j => [(0, L), (1, .sc (.string n0)), (5, (AVal.sc (Value.int IntKind.i64 (j))))]) (fun j _ => j ≤ fs.length ∧ usedF n0 (fs.take j) = false) (fun j => fs.length - j) (fun _ => rfl) 0 ?_ ?_ ?_
 ·(repeat' (first | exact trivial | refine ⟨rfl, ?_⟩))
 ·exact ⟨Nat.zero_le _, rfl⟩
 rintro j τ ⟨hj, h0⟩
 simp -implicitDefEqProofs only [go_sem, hLn]
 ((first | refine vz2 ?_ ?_ | refine vz3 ?_ ?_) <;> intro hlt)
 ·obtain ⟨f, hf⟩ : ∃ f, fs[j]? = some f := ⟨fs[j]'(by omega), by simp⟩
  obtain ⟨e, he, hfe⟩ := hl.at' j f hf
  have hyes : (decide (f.nm = n0) || (decide (n0 ∈ f.ps) || makesSs n0 f.body)) = true → usedF n0 fs = true := fun h => by
   unfold usedF
   rw [List.any_eq_true]
   exact ⟨f, List.mem_of_getElem? hf, h⟩
  have hno : (decide (f.nm = n0) || (decide (n0 ∈ f.ps) || makesSs n0 f.body)) = false → usedF n0 (fs.take (j + 1)) = false := fun h => by
   rw [List.take_add_one, hf]
   unfold usedF at h0 ⊢
   rw [List.any_append, h0]
   simpa using h
  obtain ⟨SP, SB, eb, rfl, hP, hB, hb, h1, h2, h3, h4⟩ := hfe
  have hw := wrapS (i := j) (by omega)
  by_cases hn : f.nm = n0
  ·simp -implicitDefEqProofs only [go_sem, hL.idx he, ba_list, dct hn]
   (repeat' first | ((first | refine vy1 ?_ ?_ | refine vy2 ?_ ?_ | refine vy3 ?_ ?_) <;> rintro ⟨hd, hq⟩ <;> first | (exfalso; omega) | simp -implicitDefEqProofs only [go_sem, hd] | skip) | refine vzt ?_ | refine vzf ?_ | refine vsb ?_ | refine vzb ?_ | refine vzq ?_ | simp -implicitDefEqProofs only [go_sem, hL.idx he, ba_list, dct hn])
   exact ret_bool (hyes (by simp [hn])).symm
  ·simp -implicitDefEqProofs only [go_sem, hL.idx he, ba_list, dcf hn]
   (repeat' first | ((first | refine vy1 ?_ ?_ | refine vy2 ?_ ?_ | refine vy3 ?_ ?_) <;> rintro ⟨hd, hq⟩ <;> first | (exfalso; omega) | simp -implicitDefEqProofs only [go_sem, hd] | skip) | refine vzt ?_ | refine vzf ?_ | refine vsb ?_ | refine vzb ?_ | refine vzq ?_ | simp -implicitDefEqProofs only [go_sem, hL.idx he, ba_list, dcf hn])
   refine (inC hP (by omega) n0).use ?_
   by_cases hp : n0 ∈ f.ps
   ·(repeat' first | ((first | refine vy1 ?_ ?_ | refine vy2 ?_ ?_ | refine vy3 ?_ ?_) <;> rintro ⟨hd, hq⟩ <;> first | (exfalso; omega) | simp -implicitDefEqProofs only [go_sem, hd] | skip) | refine vzt ?_ | refine vzf ?_ | refine vsb ?_ | refine vzb ?_ | refine vzq ?_ | simp -implicitDefEqProofs only [go_sem, dct hp])
    exact ret_bool (hyes (by simp [hp])).symm
   ·(repeat' first | ((first | refine vy1 ?_ ?_ | refine vy2 ?_ ?_ | refine vy3 ?_ ?_) <;> rintro ⟨hd, hq⟩ <;> first | (exfalso; omega) | simp -implicitDefEqProofs only [go_sem, hd] | skip) | refine vzt ?_ | refine vzf ?_ | refine vsb ?_ | refine vzb ?_ | refine vzq ?_ | simp -implicitDefEqProofs only [go_sem, dcf hp, hL.idx he])
    refine (makesC (Nat.le_refl _) hB hb h4).use ?_
    cases hm : makesSs n0 f.body with
    | true =>
     (repeat' first | ((first | refine vy1 ?_ ?_ | refine vy2 ?_ ?_ | refine vy3 ?_ ?_) <;> rintro ⟨hd, hq⟩ <;> first | (exfalso; omega) | simp -implicitDefEqProofs only [go_sem, hd] | skip) | refine vzt ?_ | refine vzf ?_ | refine vsb ?_ | refine vzb ?_ | refine vzq ?_ | simp -implicitDefEqProofs only [go_sem, hm])
     exact ret_bool (hyes (by simp [hm])).symm
    | false =>
     (repeat' first | ((first | refine vy1 ?_ ?_ | refine vy2 ?_ ?_ | refine vy3 ?_ ?_) <;> rintro ⟨hd, hq⟩ <;> first | (exfalso; omega) | simp -implicitDefEqProofs only [go_sem, hd] | skip) | refine vzt ?_ | refine vzf ?_ | refine vsb ?_ | refine vzb ?_ | refine vzq ?_ | simp -implicitDefEqProofs only [go_sem, hm, hw])
     exact ⟨j + 1, by dsimp only; omega, ⟨by omega, hno (by simp [hm, hn, hp])⟩, by (repeat' (first | exact trivial | refine ⟨rfl, ?_⟩))⟩
 ·obtain rfl : j = fs.length := by omega
  rw [List.take_length] at h0
  (repeat' first | ((first | refine vy1 ?_ ?_ | refine vy2 ?_ ?_ | refine vy3 ?_ ?_) <;> rintro ⟨hd, hq⟩ <;> first | (exfalso; omega) | simp -implicitDefEqProofs only [go_sem, hd] | skip) | refine vzt ?_ | refine vzf ?_ | refine vsb ?_ | refine vzb ?_ | refine vzq ?_ | simp -implicitDefEqProofs only [go_sem])
  exact ret_bool h0.symm
set_option maxHeartbeats 16000000 in
theorem lawNames {w : WD} {x : Ex} {g : List ByteArray} {fs : List Fc} {X S L : AVal} {els : List AVal} (hX : IsEx x X) (hS : IsD 1 S (g.map sA)) (lg : g.length ≤ 281474976710656) (hs : ∀ s ∈ g, s.size ≤ 281474976710656)
  (hL : IsD 3 L els) (hl : IsFcs fs els) (hlen : els.length ≤ 281474976710656) (awake : ∀ w : World, Gives (EE ⟨w, []⟩) 6 [] fun v => v = .sc (.bool true)) :
  ACalls (EE w) 5 [X, S, L] empty fun e _ => e = .ret (.sc (.bool true)) := by
 obtain ⟨c1, c2, c3⟩ := hX.isA.facts
 have cc := hX.cellsOk
 have hfit : X.fit = true := by obtain ⟨cs, rfl, _⟩ := hX.isA; rfl
 have hSn : ∀ σ : AStore, aLen (.slice 0) S σ = some (AVal.sc (Value.int IntKind.i64 (g.length))) := fun σ => by have := hS.len (σ := σ); rwa [List.length_map] at this
 refine of_5 rfl rfl rfl (by kernel_rfl) ?_
 simp -implicitDefEqProofs only [go_sem, c1, c2, c3, cc, hfit]
 have g0 : (empty.alloc (.cells 4 [X])).get 0 = some (.cells 4 [X]) := by rw [AStore.get_alloc]; rfl
 generalize empty.alloc (.cells 4 [X]) = τ at g0 ⊢
 refine (awake _).use ?_
 rintro _ rfl
 (repeat' first | ((first | refine vy1 ?_ ?_ | refine vy2 ?_ ?_ | refine vy3 ?_ ?_) <;> rintro ⟨hd, hq⟩ <;> first | (exfalso; omega) | simp -implicitDefEqProofs only [go_sem, hd] | skip) | refine vzt ?_ | refine vzf ?_ | refine vsb ?_ | refine vzb ?_ | refine vzq ?_ | simp -implicitDefEqProofs only [go_sem, g0, c1, c2, c3, cc, hfit])
 refine (beyondC hX hS lg hs hL hl hlen).use ?_
 cases hb : beyondB x g fs with
 | true =>
  (repeat' first | ((first | refine vy1 ?_ ?_ | refine vy2 ?_ ?_ | refine vy3 ?_ ?_) <;> rintro ⟨hd, hq⟩ <;> first | (exfalso; omega) | simp -implicitDefEqProofs only [go_sem, hd] | skip) | refine vzt ?_ | refine vzf ?_ | refine vsb ?_ | refine vzb ?_ | refine vzq ?_ | simp -implicitDefEqProofs only [go_sem, hb])
 | false =>
  obtain ⟨b1, b2, b3, b4, b5⟩ := beyond_not hb
  cases hg : g with
  | nil =>
   have hz : decide ((g.length : Int) = 0) = true := dct (by rw [hg]; rfl)
   (repeat' first | ((first | refine vy1 ?_ ?_ | refine vy2 ?_ ?_ | refine vy3 ?_ ?_) <;> rintro ⟨hd, hq⟩ <;> first | (exfalso; omega) | simp -implicitDefEqProofs only [go_sem, hd] | skip) | refine vzt ?_ | refine vzf ?_ | refine vsb ?_ | refine vzb ?_ | refine vzq ?_ | simp -implicitDefEqProofs only [go_sem, hb, hSn, hz])
  | cons n0 g' =>
   have hz : decide ((g.length : Int) = 0) = false := dcf (by rw [hg]; simp; omega)
   have hn0 : (g.map sA)[0]? = some (.sc (.string n0)) := by rw [hg]; rfl
   obtain ⟨R, hR1, hR2⟩ := hS.rest (by rw [hg]; simp)
   rw [hg] at hR2
   have hR3 : IsD 1 R (g'.map sA) := by simpa using hR2
   have lg' : g'.length ≤ 281474976710656 := by rw [hg] at lg; simp at lg; omega
   have hix : ∀ σ : AStore, aIndexS 1 S (AVal.sc (Value.int IntKind.i64 (0))) σ = some (.iptr [.sc (.string n0)]) := fun σ => hS.idx (σ := σ) (k := .i64) (i := 0) hn0
   have hS2 : IsD 1 S ((n0 :: g').map sA) := by rw [← hg]; exact hS
   (repeat' first | ((first | refine vy1 ?_ ?_ | refine vy2 ?_ ?_ | refine vy3 ?_ ?_) <;> rintro ⟨hd, hq⟩ <;> first | (exfalso; omega) | simp -implicitDefEqProofs only [go_sem, hd] | skip) | refine vzt ?_ | refine vzf ?_ | refine vsb ?_ | refine vzb ?_ | refine vzq ?_ | simp -implicitDefEqProofs only [go_sem, hb, hSn, hz, hix])
   refine (usedC (n0 := n0) hL hl hlen).use ?_
   cases hu : usedF n0 fs with
   | true =>
    (repeat' first | ((first | refine vy1 ?_ ?_ | refine vy2 ?_ ?_ | refine vy3 ?_ ?_) <;> rintro ⟨hd, hq⟩ <;> first | (exfalso; omega) | simp -implicitDefEqProofs only [go_sem, hd] | skip) | refine vzt ?_ | refine vzf ?_ | refine vsb ?_ | refine vzb ?_ | refine vzq ?_ | simp -implicitDefEqProofs only [go_sem, hu])
   | false =>
    (repeat' first | ((first | refine vy1 ?_ ?_ | refine vy2 ?_ ?_ | refine vy3 ?_ ?_) <;> rintro ⟨hd, hq⟩ <;> first | (exfalso; omega) | simp -implicitDefEqProofs only [go_sem, hd] | skip) | refine vzt ?_ | refine vzf ?_ | refine vsb ?_ | refine vzb ?_ | refine vzq ?_ | simp -implicitDefEqProofs only [go_sem, hu])
    ((try (refine Z_seq ?_; (try simp -implicitDefEqProofs only [go_sem]))); refine Z_draw (by kernel_rfl) [0, 1, 2, 3, 4, 5] [(5, 31), (4, 15), (3, 0), (2, 2), (1, 0), (0, 0)] (by kernel_rfl) (by kernel_rfl) ?_)
    simp -implicitDefEqProofs only [go_sem, g0, c1, c2, c3, cc, hfit, hR1]
    refine (tExpTC hX (by omega) hL hl hlen (by omega) hR3 lg').useD ?_
    simp -implicitDefEqProofs only [go_sem]
    by_cases hz2 : expP nameB x g' fs = 0
    ·have hfin := names_law nameB hu hz2
     simp -implicitDefEqProofs only [go_sem, dct hz2]
     (repeat' first | ((first | refine vy1 ?_ ?_ | refine vy2 ?_ ?_ | refine vy3 ?_ ?_) <;> rintro ⟨hd, hq⟩ <;> first | (exfalso; omega) | simp -implicitDefEqProofs only [go_sem, hd] | skip) | refine vzt ?_ | refine vzf ?_ | refine vsb ?_ | refine vzb ?_ | refine vzq ?_ | simp -implicitDefEqProofs only [go_sem, dct hz2, g0, c1, c2, c3, cc, hfit])
     refine (tExpTC hX (by omega) hL hl hlen (by omega) hS2 (by rw [← hg]; exact lg)).use ?_
     (repeat' first | ((first | refine vy1 ?_ ?_ | refine vy2 ?_ ?_ | refine vy3 ?_ ?_) <;> rintro ⟨hd, hq⟩ <;> first | (exfalso; omega) | simp -implicitDefEqProofs only [go_sem, hd] | skip) | refine vzt ?_ | refine vzf ?_ | refine vsb ?_ | refine vzb ?_ | refine vzq ?_ | simp -implicitDefEqProofs only [go_sem, dct hfin])
    ·simp -implicitDefEqProofs only [go_sem, dcf hz2]
     (repeat' first | ((first | refine vy1 ?_ ?_ | refine vy2 ?_ ?_ | refine vy3 ?_ ?_) <;> rintro ⟨hd, hq⟩ <;> first | (exfalso; omega) | simp -implicitDefEqProofs only [go_sem, hd] | skip) | refine vzt ?_ | refine vzf ?_ | refine vsb ?_ | refine vzb ?_ | refine vzq ?_ | simp -implicitDefEqProofs only [go_sem, dcf hz2])
theorem sh24 : shape Try.prog 24 = .struct [3, 9, 2, 22] := by kernel_rfl
theorem sh22 : shape Try.prog 22 = .slice 24 4 true := by kernel_rfl
theorem sh25 : shape Try.prog 25 = .slice 9 1 false := by kernel_rfl
theorem sh26 : shape Try.prog 26 = .slice 38 3 true := by kernel_rfl
theorem sh38 : shape Try.prog 38 = .struct [9, 25, 36] := by kernel_rfl
theorem sh36 : shape Try.prog 36 = .slice 61 8 true := by kernel_rfl
theorem sh61 : shape Try.prog 61 = .struct [3, 9, 24, 36, 36] := by kernel_rfl
theorem sh3 : shape Try.prog 3 = .int .i64 := by kernel_rfl
theorem sh2 : shape Try.prog 2 = .int .i64 := by kernel_rfl
theorem sh9 : shape Try.prog 9 = .str := by kernel_rfl
theorem by24 : Try.prog.bytesOf 24 = 56 := by kernel_rfl
theorem by9 : Try.prog.bytesOf 9 = 16 := by kernel_rfl
theorem by61 : Try.prog.bytesOf 61 = 128 := by kernel_rfl
theorem by38 : Try.prog.bytesOf 38 = 64 := by kernel_rfl
theorem tw_int {P : Program} {n t : Nat} {vs : List AVal} (hs : shape P t = .int .i64) (h : HasTyW P n t vs) : ∃ m, in64 m ∧ vs = [(AVal.sc (Value.int IntKind.i64 (m)))] := by
 cases n with
 | zero => exact h.elim
 | succ n =>
  unfold HasTyW at h
  rw [hs] at h
  obtain ⟨m, hw, h⟩ := h
  refine ⟨m, ?_, h⟩
  have : (Lit.int .i64 m).wf = true := hw
  simp [Lit.wf, IntKind.min, IntKind.max, IntKind.signed, IntKind.bits] at this
  exact ⟨by omega, by omega⟩
theorem tw_str {P : Program} {n t : Nat} {vs : List AVal} (hs : shape P t = .str) (h : HasTyW P n t vs) : ∃ s : ByteArray, s.size ≤ 281474976710656 ∧ vs = [.sc (.string s)] := by
 cases n with
 | zero => exact h.elim
 | succ n =>
  unfold HasTyW at h
  rw [hs] at h
  obtain ⟨s, hw, h⟩ := h
  exact ⟨s, by omega, h⟩
theorem tw_struct {P : Program} {n t : Nat} {ts : List TypeId} {vs : List AVal} (hs : shape P t = .struct ts) (h : HasTyW P (n + 1) t vs) : HasL (HasTyW P n) P ts vs := by
 unfold HasTyW at h
 rw [hs] at h
 exact h
/-- A slice that came in. -/
theorem tw_slice {P : Program} {n t e c by' : Nat} {agg : Bool} {vs : List AVal} (hs : shape P t = .slice e c agg) (hb : P.bytesOf e = by') (h0 : 0 < by') (h : HasTyW P (n + 1) t vs) :
  ∃ (S : AVal) (els : List AVal), vs = [S] ∧ IsD c S els ∧ els.length ≤ 281474976710656 ∧ ∀ x ∈ els, HasTyW P n e x.cells ∧ x.cells.length = c ∧ x.isAgg = agg := by
 unfold HasTyW at h
 rw [hs] at h
 rcases h with h | ⟨a, c, h⟩ | ⟨els, _, _, hlen, h, hels⟩
 ·exact ⟨_, [], h, .inl ⟨rfl, _, _, rfl⟩, by simp, by simp⟩
 ·exact ⟨_, [], h, .inl ⟨rfl, _, _, rfl⟩, by simp, by simp⟩
 ·rw [hb] at hlen
  exact ⟨_, els, h, .inr ⟨_, rfl⟩, by have := Nat.le_mul_of_pos_right els.length h0; omega, hels⟩
theorem names_of {n : Nat} {els : List AVal} (h : ∀ x ∈ els, HasTyW Try.prog n 9 x.cells ∧ x.cells.length = 1 ∧ x.isAgg = false) : ∃ g : List ByteArray, els = g.map sA ∧ ∀ s ∈ g, s.size ≤ 281474976710656 := by
 induction els with
 | nil => exact ⟨[], rfl, by simp⟩
 | cons x els ih =>
  obtain ⟨g, rfl, hg⟩ := ih fun y hy => h y (by simp [hy])
  obtain ⟨h1, _, h2⟩ := h x (by simp)
  obtain ⟨s, hs, he⟩ := tw_str sh9 h1
  have := one_of h2 he
  subst this
  exact ⟨s :: g, rfl, by intro t ht; rcases List.mem_cons.1 ht with rfl | ht; exact hs; exact hg t ht⟩
theorem is_names {n : Nat} {vs : List AVal} (h : HasTyW Try.prog n 25 vs) : ∃ (S : AVal) (g : List ByteArray), vs = [S] ∧ IsD 1 S (g.map sA) ∧ g.length ≤ 281474976710656 ∧ ∀ s ∈ g, s.size ≤ 281474976710656 := by
 cases n with
 | zero => exact h.elim
 | succ n =>
  obtain ⟨S, els, h1, h2, h3, h4⟩ := tw_slice sh25 by9 (by decide) h
  obtain ⟨g, rfl, hg⟩ := names_of h4
  exact ⟨S, g, h1, h2, by rw [List.length_map] at h3; exact h3, hg⟩
theorem is_ex (n : Nat) : (∀ vs, HasTyW Try.prog n 24 vs → ∃ x, IsEx x (.agg vs)) ∧ (∀ vs, HasTyW Try.prog n 22 vs → ∃ S els xs, vs = [S] ∧ IsD 4 S els ∧ IsExs xs els ∧ els.length ≤ 281474976710656) := by
 induction n with
 | zero => exact ⟨fun vs h => h.elim, fun vs h => h.elim⟩
 | succ n ih =>
  constructor
  ·intro vs h
   obtain ⟨a1, r1, rfl, _, h1, a2, r2, rfl, _, h2, a3, r3, rfl, _, h3, a4, r4, rfl, _, h4, h5⟩ := tw_struct sh24 h
   have h5 : r4 = [] := h5
   subst h5
   obtain ⟨k, hk, rfl⟩ := tw_int sh3 h1
   obtain ⟨s, hs, rfl⟩ := tw_str sh9 h2
   obtain ⟨i, hi, rfl⟩ := tw_int sh2 h3
   obtain ⟨S, els, xs, rfl, hS, hx, hl⟩ := ih.2 _ h4
   refine ⟨.mk k s i xs, ?_⟩
   simp only [IsEx]
   exact ⟨S, els, rfl, hS, hx, hk, hi, hs, hl⟩
  ·intro vs h
   obtain ⟨S, els, h1, h2, h3, h4⟩ := tw_slice sh22 by24 (by decide) h
   have key : ∃ xs, IsExs xs els := by
    clear h2 h3
    induction els with
    | nil => exact ⟨[], rfl⟩
    | cons x els ih2 =>
     obtain ⟨xs, hxs⟩ := ih2 fun y hy => h4 y (by simp [hy])
     obtain ⟨g1, _, g2⟩ := h4 x (by simp)
     obtain ⟨y, hy⟩ := ih.1 _ g1
     rw [← agg_of g2 rfl] at hy
     exact ⟨y :: xs, x, els, rfl, hy, hxs⟩
   obtain ⟨xs, hxs⟩ := key
   exact ⟨S, els, xs, h1, h2, hxs, h3⟩
theorem is_st (n : Nat) : (∀ vs, HasTyW Try.prog n 61 vs → ∃ x, IsSt x (.agg vs)) ∧ (∀ vs, HasTyW Try.prog n 36 vs → ∃ S els xs, vs = [S] ∧ IsD 8 S els ∧ IsSts xs els ∧ els.length ≤ 281474976710656) := by
 induction n with
 | zero => exact ⟨fun vs h => h.elim, fun vs h => h.elim⟩
 | succ n ih =>
  constructor
  ·intro vs h
   obtain ⟨a1, r1, rfl, _, h1, a2, r2, rfl, _, h2, a3, r3, rfl, _, h3, a4, r4, rfl, _, h4, a5, r5, rfl, _, h5, h6⟩ := tw_struct sh61 h
   have h6 : r5 = [] := h6
   subst h6
   obtain ⟨k, hk, rfl⟩ := tw_int sh3 h1
   obtain ⟨s, hs, rfl⟩ := tw_str sh9 h2
   obtain ⟨x, hx⟩ := (is_ex n).1 _ h3
   obtain ⟨SB, eb, xb, rfl, hB, hb, hlb⟩ := ih.2 _ h4
   obtain ⟨SE, ee, xe, rfl, hE, he, hle⟩ := ih.2 _ h5
   obtain ⟨ek, en, ei, ez⟩ := x
   simp only [IsEx] at hx
   obtain ⟨SA, ea, hv, hA, ha, hk2, hi2, hn2, hl2⟩ := hx
   injection hv with hv
   subst hv
   refine ⟨.mk k s (.mk ek en ei ez) xb xe, ?_⟩
   simp only [IsSt]
   exact ⟨SA, SB, SE, ea, eb, ee, rfl, hA, ha, hB, hb, hE, he, hk, hk2, hi2, hs, hn2, hl2, hlb, hle⟩
  ·intro vs h
   obtain ⟨S, els, h1, h2, h3, h4⟩ := tw_slice sh36 by61 (by decide) h
   have key : ∃ xs, IsSts xs els := by
    clear h2 h3
    induction els with
    | nil => exact ⟨[], rfl⟩
    | cons x els ih2 =>
     obtain ⟨xs, hxs⟩ := ih2 fun y hy => h4 y (by simp [hy])
     obtain ⟨g1, _, g2⟩ := h4 x (by simp)
     obtain ⟨y, hy⟩ := ih.1 _ g1
     rw [← agg_of g2 rfl] at hy
     exact ⟨y :: xs, x, els, rfl, hy, hxs⟩
   obtain ⟨xs, hxs⟩ := key
   exact ⟨S, els, xs, h1, h2, hxs, h3⟩
theorem is_fc {n : Nat} {vs : List AVal} (h : HasTyW Try.prog (n + 1) 38 vs) : ∃ f, IsFc f (.agg vs) := by
 obtain ⟨a1, r1, rfl, _, h1, a2, r2, rfl, _, h2, a3, r3, rfl, _, h3, h4⟩ := tw_struct sh38 h
 have h4 : r3 = [] := h4
 subst h4
 obtain ⟨s, hs, rfl⟩ := tw_str sh9 h1
 obtain ⟨SP, ps, rfl, hP, hlp, hsp⟩ := is_names h2
 obtain ⟨SB, eb, xb, rfl, hB, hb, hlb⟩ := (is_st n).2 _ h3
 exact ⟨⟨s, ps, xb⟩, SP, SB, eb, rfl, hP, hB, hb, hs, hsp, hlp, hlb⟩
theorem is_fcs {n : Nat} {vs : List AVal} (h : HasTyW Try.prog n 26 vs) : ∃ (S : AVal) (els : List AVal) (fs : List Fc), vs = [S] ∧ IsD 3 S els ∧ IsFcs fs els ∧ els.length ≤ 281474976710656 := by
 cases n with
 | zero => exact h.elim
 | succ n =>
  obtain ⟨S, els, h1, h2, h3, h4⟩ := tw_slice sh26 by38 (by decide) h
  have key : ∃ fs, IsFcs fs els := by
   clear h2 h3
   induction els with
   | nil => exact ⟨[], rfl, fun j f h => by simp at h⟩
   | cons x els ih2 =>
    obtain ⟨xs, hxs⟩ := ih2 fun y hy => h4 y (by simp [hy])
    obtain ⟨g1, _, g2⟩ := h4 x (by simp)
    cases n with
    | zero => exact g1.elim
    | succ n =>
     obtain ⟨y, hy⟩ := is_fc g1
     rw [← agg_of g2 rfl] at hy
     refine ⟨y :: xs, by simp [hxs.len], fun j f hj => ?_⟩
     cases j with
     | zero => simp at hj; subst hj; exact ⟨x, rfl, hy⟩
     | succ j => simpa using hxs.at' j f (by simpa using hj)
  obtain ⟨fs, hfs⟩ := key
  exact ⟨S, els, fs, h1, h2, hfs, h3⟩
end Abs
end
