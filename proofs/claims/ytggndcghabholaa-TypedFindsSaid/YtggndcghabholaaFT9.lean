/-
  Functions of the program walked: each is shown to compute a plain function (T9).
-/
import Derived.Test.YtggndcghabholaaFT1
noncomputable section
namespace Abs
set_option linter.unusedSimpArgs false
set_option linter.unusedVariables false
set_option maxRecDepth 100000
set_option maxHeartbeats 16000000
open Go Go.Proofs
theorem nm_empty {s : ByteArray} : decide (s = ⟨#[]⟩) = decide (s.size = 0) := by
 apply decide_eq_decide.mpr
 constructor
 ·rintro rfl; rfl
 ·intro h
  apply ByteArray.ext
  apply Array.eq_empty_of_size_eq_zero
  exact h
theorem ar_op {k : Int} {n : Nat} (h : rankI k ≠ 0) : arityB k n = decide (n = 2) := by
 have : 5 ≤ k ∧ k ≤ 17 := by
  unfold rankI at h
  split at h
  ·omega
  ·split at h
   ·omega
   ·split at h
    ·omega
    ·split at h
     ·omega
     ·split at h
      ·omega
      ·exact absurd rfl h
 unfold arityB
 rw [if_neg (by omega), if_neg (by omega), if_pos this]
theorem ar_no {k : Int} {n : Nat} (h : rankI k = 0) (h1 : k ≠ 1) (h2 : k ≠ 2) (h3 : k ≠ 3) (h4 : k ≠ 4) (h5 : k ≠ 18) (h6 : k ≠ 19) : arityB k n = false := by
 unfold arityB
 rw [if_neg (by omega), if_neg (by omega), if_neg, if_neg h5, dcf h6]
 rintro ⟨a, b⟩
 unfold rankI at h
 split at h
 ·cases h
 ·split at h
  ·cases h
  ·split at h
   ·cases h
   ·split at h
    ·cases h
    ·split at h
     ·cases h
     ·omega
theorem formedBs_at {l : List Ex} : formedBs nameB l = !decide (∃ j, j < l.length ∧ (match l[j]? with | some x => !formedB nameB x | none => false) = true) := by
 rw [formedBs_all, Bool.eq_iff_iff, List.all_eq_true, Bool.not_eq_true', decide_eq_false_iff_not]
 constructor
 ·rintro h ⟨j, hj, hb⟩
  rw [List.getElem?_eq_getElem hj] at hb
  simp [h _ (List.getElem_mem hj)] at hb
 ·intro h x hx
  obtain ⟨j, hj, rfl⟩ := List.mem_iff_getElem.1 hx
  cases hb : formedB nameB l[j] with
  | true => rfl
  | false => exact absurd ⟨j, hj, by rw [List.getElem?_eq_getElem hj]; simp [hb]⟩ h
def namedB (k : Int) (nm : ByteArray) : Bool := if k = 2 ∨ k = 19 then nameB nm else decide (nm.size = 0)
theorem formed1C {w : WD} {x : Ex} {v : AVal} (h : IsEx x v) (hf : ∀ w : WD, GivesV (EE w) 50 [v] (.sc (.bool (formedB nameB x)))) : GivesV (EE w) 77 [v] (.sc (.bool (!formedB nameB x))) := by
 refine GivesV.of (fun _ => .sc _) (.cons _ _ h.wf .nil) 1 ?_
 obtain ⟨c1, c2, c3⟩ := h.isA.facts
 obtain ⟨cs, rfl, hl⟩ := h.isA
 simp only [cells_agg] at c1 c2
 refine of_77 rfl rfl rfl (by kernel_rfl) ?_
 simp -implicitDefEqProofs only [go_sem, c1, c2]
 refine (hf _).use ?_
 (repeat' first | ((first | refine vy1 ?_ ?_ | refine vy2 ?_ ?_ | refine vy3 ?_ ?_) <;> rintro ⟨hd, hq⟩ <;> first | (exfalso; omega) | simp -implicitDefEqProofs only [go_sem, hd] | skip) | refine vzt ?_ | refine vzf ?_ | refine vsb ?_ | refine vzb ?_ | refine vzq ?_ | simp -implicitDefEqProofs only [go_sem])
 exact ret_bool rfl
theorem formedStep {k i : Int} {nm : ByteArray} {l : List Ex} {w : WD} {v : AVal} (h : IsEx (.mk k nm i l) v) (rec : ∀ y ∈ l, ∀ (w : WD) (v : AVal), IsEx y v → GivesV (EE w) 50 [v] (.sc (.bool (formedB nameB y)))) : GivesV (EE w) 50 [v] (.sc (.bool (formedB nameB (.mk k nm i l)))) := by
  have hwf := h.wf
  simp only [IsEx] at h
  obtain ⟨S, els, rfl, hS, hs, hk, hi, hn, hl⟩ := h
  have hlen := hs.len
  have ih : ∀ (w : WD) (j : Nat) e, els[j]? = some e → GivesV (EE w) 77 [e] (.sc (.bool (match l[j]? with | some x => !formedB nameB x | none => false))) := by
   intro w j e he
   obtain ⟨x, hx, hxe⟩ := hs.all he
   rw [hx]
   exact formed1C hxe fun w => rec x (List.mem_of_getElem? hx) w e hxe
  have hfF := fun w : WD => containsFEC (w := w) hS (by omega) hs.isA hs.wf (g := 77) (fun w => by kernel_rfl) (fun j => match l[j]? with | some x => !formedB nameB x | none => false) ih
  have kS := hS.fit
  have cS := hS.cells
  have iS := hS.isCell
  refine GivesV.of (fun _ => .sc _) (.cons _ _ hwf .nil) 1 ?_
  have hform : formedB nameB (.mk k nm i l) = ((arityB k l.length && namedB k nm) && ((decide (i = 0) || decide (k = 1)) && (decide (-2147483648 ≤ i) && decide (i ≤ 2147483648))) && formedBs nameB l) := rfl
  rw [hform]
  refine of_50 rfl rfl rfl (by kernel_rfl) ?_
  simp -implicitDefEqProofs only [go_sem, kS, cS, iS]
  refine Z_mid (fun e σ => ∃ m : Int, look? e 1 = some (.ptr 0 0 0) ∧ look? e 3 = some (.sc (.int .i64 (m))) ∧ σ.get 0 = some (.cells 4 [.agg [(.sc (.int .i64 (k))), .sc (.string nm), (.sc (.int .i64 (i))), S]]) ∧ decide ((l.length : Int) = m) = arityB k l.length) ?_ ?_
  ·have hg : ∀ y, (empty.alloc y).get 0 = some y := fun y => by rw [AStore.get_alloc]; rfl
   by_cases h1 : k = 1
   ·subst h1
    (repeat' first | ((first | refine vy1 ?_ ?_ | refine vy2 ?_ ?_ | refine vy3 ?_ ?_) <;> rintro ⟨hd, hq⟩ <;> first | (exfalso; omega) | simp -implicitDefEqProofs only [go_sem, hd] | skip) | refine vzt ?_ | refine vzf ?_ | refine vsb ?_ | refine vzb ?_ | refine vzq ?_ | simp -implicitDefEqProofs only [go_sem])
    refine ⟨0, rfl, ?_⟩
    unfold arityB; rw [if_pos (by omega)]; exact decide_eq_decide.mpr (by omega)
   by_cases h2 : k = 2
   ·subst h2
    (repeat' first | ((first | refine vy1 ?_ ?_ | refine vy2 ?_ ?_ | refine vy3 ?_ ?_) <;> rintro ⟨hd, hq⟩ <;> first | (exfalso; omega) | simp -implicitDefEqProofs only [go_sem, hd] | skip) | refine vzt ?_ | refine vzf ?_ | refine vsb ?_ | refine vzb ?_ | refine vzq ?_ | simp -implicitDefEqProofs only [go_sem])
    refine ⟨0, rfl, ?_⟩
    unfold arityB; rw [if_pos (by omega)]; exact decide_eq_decide.mpr (by omega)
   by_cases h3 : k = 3
   ·subst h3
    (repeat' first | ((first | refine vy1 ?_ ?_ | refine vy2 ?_ ?_ | refine vy3 ?_ ?_) <;> rintro ⟨hd, hq⟩ <;> first | (exfalso; omega) | simp -implicitDefEqProofs only [go_sem, hd] | skip) | refine vzt ?_ | refine vzf ?_ | refine vsb ?_ | refine vzb ?_ | refine vzq ?_ | simp -implicitDefEqProofs only [go_sem])
    refine ⟨1, rfl, ?_⟩
    unfold arityB; rw [if_neg (by omega), if_pos (by omega)]; exact decide_eq_decide.mpr (by omega)
   by_cases h4 : k = 4
   ·subst h4
    (repeat' first | ((first | refine vy1 ?_ ?_ | refine vy2 ?_ ?_ | refine vy3 ?_ ?_) <;> rintro ⟨hd, hq⟩ <;> first | (exfalso; omega) | simp -implicitDefEqProofs only [go_sem, hd] | skip) | refine vzt ?_ | refine vzf ?_ | refine vsb ?_ | refine vzb ?_ | refine vzq ?_ | simp -implicitDefEqProofs only [go_sem])
    refine ⟨1, rfl, ?_⟩
    unfold arityB; rw [if_neg (by omega), if_pos (by omega)]; exact decide_eq_decide.mpr (by omega)
   by_cases h5 : k = 18
   ·subst h5
    (repeat' first | ((first | refine vy1 ?_ ?_ | refine vy2 ?_ ?_ | refine vy3 ?_ ?_) <;> rintro ⟨hd, hq⟩ <;> first | (exfalso; omega) | simp -implicitDefEqProofs only [go_sem, hd] | skip) | refine vzt ?_ | refine vzf ?_ | refine vsb ?_ | refine vzb ?_ | refine vzq ?_ | simp -implicitDefEqProofs only [go_sem])
    refine ⟨3, rfl, ?_⟩
    unfold arityB; rw [if_neg (by omega), if_neg (by omega), if_neg (by omega), if_pos (by omega)]; exact decide_eq_decide.mpr (by omega)
   by_cases h6 : k = 19
   ·subst h6
    (repeat' first | ((first | refine vy1 ?_ ?_ | refine vy2 ?_ ?_ | refine vy3 ?_ ?_) <;> rintro ⟨hd, hq⟩ <;> first | (exfalso; omega) | simp -implicitDefEqProofs only [go_sem, hd] | skip) | refine vzt ?_ | refine vzf ?_ | refine vsb ?_ | refine vzb ?_ | refine vzq ?_ | simp -implicitDefEqProofs only [go_sem, hS.len])
    refine ⟨els.length, rfl, ?_⟩
    rw [hlen]
    unfold arityB; rw [if_neg (by omega), if_neg (by omega), if_neg (by omega), if_neg (by omega)]; exact decide_eq_decide.mpr (by omega)
   (repeat' first | ((first | refine vy1 ?_ ?_ | refine vy2 ?_ ?_ | refine vy3 ?_ ?_) <;> rintro ⟨hd, hq⟩ <;> first | (exfalso; omega) | simp -implicitDefEqProofs only [go_sem, hd] | skip) | refine vzt ?_ | refine vzf ?_ | refine vsb ?_ | refine vzb ?_ | refine vzq ?_ | simp -implicitDefEqProofs only [go_sem, dcf h1, dcf h2, dcf h3, dcf h4, dcf h5, dcf h6])
   refine (operatorC k).use ?_
   rintro _ ⟨s, rfl⟩
   by_cases h7 : rankI k = 0
   ·(repeat' first | ((first | refine vy1 ?_ ?_ | refine vy2 ?_ ?_ | refine vy3 ?_ ?_) <;> rintro ⟨hd, hq⟩ <;> first | (exfalso; omega) | simp -implicitDefEqProofs only [go_sem, hd] | skip) | refine vzt ?_ | refine vzf ?_ | refine vsb ?_ | refine vzb ?_ | refine vzq ?_ | simp -implicitDefEqProofs only [go_sem, dct h7])
    exact ret_bool (by rw [ar_no h7 h1 h2 h3 h4 h5 h6]; rfl)
   ·(repeat' first | ((first | refine vy1 ?_ ?_ | refine vy2 ?_ ?_ | refine vy3 ?_ ?_) <;> rintro ⟨hd, hq⟩ <;> first | (exfalso; omega) | simp -implicitDefEqProofs only [go_sem, hd] | skip) | refine vzt ?_ | refine vzf ?_ | refine vsb ?_ | refine vzb ?_ | refine vzq ?_ | simp -implicitDefEqProofs only [go_sem, dcf h7])
    exact ⟨2, rfl, by rw [ar_op h7]; exact decide_eq_decide.mpr (by omega)⟩
  ·rintro e σ ⟨m, t1, t3, hg, har⟩
   rw [← har]
   have e2 : decide (nm = ⟨#[]⟩) = decide (nm.size = 0) := nm_empty
   have hL : aLen (.slice 0) S σ = some (.sc (.int .i64 l.length)) := by rw [← hlen]; exact hS.len
   have hfin : formedBs nameB l = !decide (∃ j, j < els.length ∧ (match l[j]? with | some x => !formedB nameB x | none => false) = true) := by rw [formedBs_at, hlen]
   rw [hfin]
   clear ih hform hwf har hfin
   generalize hC : decide (∃ j, j < els.length ∧ (match l[j]? with | some x => !formedB nameB x | none => false) = true) = bb at *
   by_cases h3 : k = 2
   ·have hnb : namedB k nm = nameB nm := if_pos (by omega)
    rw [hnb]
    simp -implicitDefEqProofs only [go_sem, t1, t3, hg, ba_list, dct h3]
    refine vzt ?_
    simp -implicitDefEqProofs only [go_sem, t1, t3, hg]
    refine (nameC nm).use ?_
    generalize nameB nm = nb
    cases nb with
    | false =>
     (repeat' first | ((first | refine vy1 ?_ ?_ | refine vy2 ?_ ?_ | refine vy3 ?_ ?_) <;> rintro ⟨hd, hq⟩ <;> first | (exfalso; omega) | simp -implicitDefEqProofs only [go_sem, hd] | skip) | refine vzt ?_ | refine vzf ?_ | refine vsb ?_ | refine vzb ?_ | refine vzq ?_ | simp -implicitDefEqProofs only [go_sem, t1, t3, hg])
     exact ret_bool (by simp)
    | true =>
     (repeat' first | ((first | refine vy1 ?_ ?_ | refine vy2 ?_ ?_ | refine vy3 ?_ ?_) <;> rintro ⟨hd, hq⟩ <;> first | (exfalso; omega) | simp -implicitDefEqProofs only [go_sem, hd] | skip) | refine vzt ?_ | refine vzf ?_ | refine vsb ?_ | refine vzb ?_ | refine vzq ?_ | simp -implicitDefEqProofs only [go_sem, t1, t3, hg, hL])
     all_goals first | (refine (hfF _).use ?_; (repeat' first | ((first | refine vy1 ?_ ?_ | refine vy2 ?_ ?_ | refine vy3 ?_ ?_) <;> rintro ⟨hd, hq⟩ <;> first | (exfalso; omega) | simp -implicitDefEqProofs only [go_sem, hd] | skip) | refine vzt ?_ | refine vzf ?_ | refine vsb ?_ | refine vzb ?_ | refine vzq ?_ | simp -implicitDefEqProofs only [go_sem]); exact ret_bool (by simp [*])) | exact ret_bool (by simp [*])
   by_cases h4 : k = 19
   ·have hnb : namedB k nm = nameB nm := if_pos (by omega)
    rw [hnb]
    simp -implicitDefEqProofs only [go_sem, t1, t3, hg, ba_list, dcf h3, dct h4]
    refine vzt ?_
    simp -implicitDefEqProofs only [go_sem, t1, t3, hg]
    refine (nameC nm).use ?_
    generalize nameB nm = nb
    cases nb with
    | false =>
     (repeat' first | ((first | refine vy1 ?_ ?_ | refine vy2 ?_ ?_ | refine vy3 ?_ ?_) <;> rintro ⟨hd, hq⟩ <;> first | (exfalso; omega) | simp -implicitDefEqProofs only [go_sem, hd] | skip) | refine vzt ?_ | refine vzf ?_ | refine vsb ?_ | refine vzb ?_ | refine vzq ?_ | simp -implicitDefEqProofs only [go_sem, t1, t3, hg])
     exact ret_bool (by simp)
    | true =>
     (repeat' first | ((first | refine vy1 ?_ ?_ | refine vy2 ?_ ?_ | refine vy3 ?_ ?_) <;> rintro ⟨hd, hq⟩ <;> first | (exfalso; omega) | simp -implicitDefEqProofs only [go_sem, hd] | skip) | refine vzt ?_ | refine vzf ?_ | refine vsb ?_ | refine vzb ?_ | refine vzq ?_ | simp -implicitDefEqProofs only [go_sem, t1, t3, hg, hL])
     all_goals first | (refine (hfF _).use ?_; (repeat' first | ((first | refine vy1 ?_ ?_ | refine vy2 ?_ ?_ | refine vy3 ?_ ?_) <;> rintro ⟨hd, hq⟩ <;> first | (exfalso; omega) | simp -implicitDefEqProofs only [go_sem, hd] | skip) | refine vzt ?_ | refine vzf ?_ | refine vsb ?_ | refine vzb ?_ | refine vzq ?_ | simp -implicitDefEqProofs only [go_sem]); exact ret_bool (by simp [*])) | exact ret_bool (by simp [*])
   ·have hnb : namedB k nm = decide (nm.size = 0) := if_neg (by omega)
    rw [hnb]
    simp -implicitDefEqProofs only [go_sem, t1, t3, hg, ba_list, dcf h3, dcf h4, e2]
    refine vzf ?_
    generalize decide (nm.size = 0) = nb
    cases nb with
    | false =>
     (repeat' first | ((first | refine vy1 ?_ ?_ | refine vy2 ?_ ?_ | refine vy3 ?_ ?_) <;> rintro ⟨hd, hq⟩ <;> first | (exfalso; omega) | simp -implicitDefEqProofs only [go_sem, hd] | skip) | refine vzt ?_ | refine vzf ?_ | refine vsb ?_ | refine vzb ?_ | refine vzq ?_ | simp -implicitDefEqProofs only [go_sem, t1, t3, hg])
     exact ret_bool (by simp)
    | true =>
     (repeat' first | ((first | refine vy1 ?_ ?_ | refine vy2 ?_ ?_ | refine vy3 ?_ ?_) <;> rintro ⟨hd, hq⟩ <;> first | (exfalso; omega) | simp -implicitDefEqProofs only [go_sem, hd] | skip) | refine vzt ?_ | refine vzf ?_ | refine vsb ?_ | refine vzb ?_ | refine vzq ?_ | simp -implicitDefEqProofs only [go_sem, t1, t3, hg, hL])
     all_goals first | (refine (hfF _).use ?_; (repeat' first | ((first | refine vy1 ?_ ?_ | refine vy2 ?_ ?_ | refine vy3 ?_ ?_) <;> rintro ⟨hd, hq⟩ <;> first | (exfalso; omega) | simp -implicitDefEqProofs only [go_sem, hd] | skip) | refine vzt ?_ | refine vzf ?_ | refine vsb ?_ | refine vzb ?_ | refine vzq ?_ | simp -implicitDefEqProofs only [go_sem]); exact ret_bool (by simp [*])) | exact ret_bool (by simp [*])
theorem formedC : ∀ {x : Ex} {w : WD} {v : AVal}, IsEx x v → GivesV (EE w) 50 [v] (.sc (.bool (formedB nameB x)))
 | .mk _ _ _ _, _, _, h => formedStep h fun y hy _ _ h' => formedC (x := y) h'
termination_by x => sizeOf x
decreasing_by have := List.sizeOf_lt_of_mem hy; simp only [Ex.mk.sizeOf_spec]; omega
/-- One block is written; other old ones are as they were. -/
def Upd (σ σ' : AStore) (b : Nat) (x : ABlk) : Prop := σ.next ≤ σ'.next ∧ σ'.get b = some x ∧ ∀ b' y, b' ≠ b → σ.get b' = some y → σ'.get b' = some y
def mA (n d : Nat) (w : Bool) : AVal := .agg [(.sc (.int .i64 (n))), (.sc (.int .i64 (d))), (.sc (.bool (w)))]
theorem mx_nat {a b : Nat} : (if (b : Int) > (a : Int) then (b : Int) else (a : Int)) = ((max a b : Nat) : Int) := by
 split <;> omega
theorem oneOf_nil : oneOf [] = .tuple [] := rfl
theorem mInC {w : WD} {σ : AStore} {b : Nat} {n1 d1 n2 d2 : Nat} {w1 w2 : Bool} (hg : σ.get b = some (.cells 3 [mA n1 d1 w1])) (h1 : n1 ≤ 1152921504606846976) (h2 : n2 ≤ 1152921504606846976) (h3 : d1 ≤ 1152921504606846976) (h4 : d2 ≤ 1152921504606846976) :
  ACalls (EE w) 78 [.ptr b 0 0, mA n2 d2 w2] σ fun e σ' => e = .ret (.tuple []) ∧ Upd σ σ' b (.cells 3 [mA (n1 + n2) (max d1 (1 + d2)) (w1 || w2)]) := by
 have hlt := AStore.lt_of_get hg
 have hne : σ.next ≠ b := by omega
 have hw1 : IntKind.i64.wrap ((n1 : Int) + (n2 : Int)) = ((n1 + n2 : Nat) : Int) := by rw [wrap64 (by omega) (by omega)]; omega
 have hw2 : IntKind.i64.wrap (1 + (d2 : Int)) = ((1 + d2 : Nat) : Int) := by rw [wrap64 (by omega) (by omega)]; omega
 have hb : b ≠ σ.next := by omega
 have hlt' : b < σ.next + 1 := by omega
 refine of_78 rfl rfl rfl (by kernel_rfl) ?_
 simp -implicitDefEqProofs only [go_sem, mA]
 ((try (refine Z_seq ?_; (try simp -implicitDefEqProofs only [go_sem]))); refine Z_draw (by kernel_rfl) [0, 1, 2, 3, 4, 5, 6, 7, 8, 9, 10, 11, 12, 13, 14, 15, 16, 17, 18, 19, 20, 21, 22, 23, 24, 25, 26, 27, 28, 29, 30, 31, 32, 33, 34] [(34, 17179869183), (33, 8589934591), (32, 4294967295), (31, 2088763387), (30, 1015021563), (29, 478150651), (28, 209469433), (27, 71057401), (26, 3948537), (25, 33292288), (24, 16515072), (23, 8126464), (22, 3932160), (21, 1835008), (20, 786432), (19, 262144), (18, 0), (17, 130048), (16, 49152), (15, 16384), (14, 0), (13, 7168), (12, 3072), (11, 1024), (10, 0), (9, 504), (8, 128), (7, 0), (6, 56), (5, 24), (4, 8), (3, 0), (2, 0), (1, 0), (0, 0)] (by kernel_rfl) (by kernel_rfl) ?_)
 simp -implicitDefEqProofs only [go_sem, hg, mA, hw1, hw2, hb, hlt', if_neg hb]
 have hmx := mx_nat (a := d1) (b := 1 + d2)
 cases w1 with
 | true =>
  simp -implicitDefEqProofs only [go_sem, hg, mA, hw1, hw2, hb, hlt', hne, hmx, oneOf_nil, Bool.true_or]
  refine ⟨by simp only [set_next, alloc_next]; omega, ?_, ?_⟩
  ·rw [AStore.get_set, if_pos ⟨rfl, by simp only [set_next, alloc_next]; omega⟩]
  ·intro b' y hb' hy
   have hlt2 := AStore.lt_of_get hy
   rw [AStore.get_set, if_neg (fun hc => hb' hc.1), AStore.get_set, if_neg (fun hc => hb' hc.1), AStore.get_set, if_neg (fun hc => hb' hc.1), AStore.get_alloc, if_neg (by omega)]
   exact hy
 | false =>
  simp -implicitDefEqProofs only [go_sem, hg, mA, hw1, hw2, hb, hlt', hne, hmx, oneOf_nil, Bool.false_or]
  refine ⟨by simp only [set_next, alloc_next]; omega, ?_, ?_⟩
  ·rw [AStore.get_set, if_pos ⟨rfl, by simp only [set_next, alloc_next]; omega⟩]
  ·intro b' y hb' hy
   have hlt2 := AStore.lt_of_get hy
   rw [AStore.get_set, if_neg (fun hc => hb' hc.1), AStore.get_set, if_neg (fun hc => hb' hc.1), AStore.get_set, if_neg (fun hc => hb' hc.1), AStore.get_alloc, if_neg (by omega)]
   exact hy
theorem nodesEs_take : ∀ {l : List Ex} {i : Nat} {x : Ex}, l[i]? = some x → nodesEs (l.take (i + 1)) = nodesEs (l.take i) + nodesE x
  | [], i, x, h => by simp at h
  | y :: l, 0, x, h => by simp at h; subst h; simp [nodesEs]
  | y :: l, i + 1, x, h => by
      have := nodesEs_take (l := l) (i := i) (x := x) (by simpa using h)
      simp only [List.take_succ_cons, nodesEs] at this ⊢
      omega
theorem depthEs_take : ∀ {l : List Ex} {i : Nat} {x : Ex}, l[i]? = some x → depthEs (l.take (i + 1)) = max (depthEs (l.take i)) (depthE x)
  | [], i, x, h => by simp at h
  | y :: l, 0, x, h => by simp at h; subst h; simp [depthEs]
  | y :: l, i + 1, x, h => by
      have := depthEs_take (l := l) (i := i) (x := x) (by simpa using h)
      simp only [List.take_succ_cons, depthEs] at this ⊢
      omega
theorem fewEs_take : ∀ {l : List Ex} {i : Nat} {x : Ex}, l[i]? = some x → fewEs (l.take (i + 1)) = (fewEs (l.take i) && fewE x)
  | [], i, x, h => by simp at h
  | y :: l, 0, x, h => by simp at h; subst h; simp [fewEs]
  | y :: l, i + 1, x, h => by
      have := fewEs_take (l := l) (i := i) (x := x) (by simpa using h)
      simp only [List.take_succ_cons, fewEs, Bool.and_assoc] at this ⊢
      rw [this]
theorem nodesEs_le : ∀ {l : List Ex} {i : Nat}, nodesEs (l.take i) ≤ nodesEs l
  | [], i => by simp
  | y :: l, 0 => by simp [nodesEs]
  | y :: l, i + 1 => by
      have := nodesEs_le (l := l) (i := i)
      simp only [List.take_succ_cons, nodesEs] at this ⊢
      omega
theorem depthEs_le : ∀ {l : List Ex} {i : Nat}, depthEs (l.take i) ≤ depthEs l
  | [], i => by simp
  | y :: l, 0 => by simp [depthEs]
  | y :: l, i + 1 => by
      have := depthEs_le (l := l) (i := i)
      simp only [List.take_succ_cons, depthEs] at this ⊢
      omega
mutual
theorem depth_nodesE : ∀ (x : Ex), depthE x ≤ nodesE x
 | .mk _ _ _ l => by have := depth_nodesEs l; simp only [depthE, nodesE]; omega
theorem depth_nodesEs : ∀ (l : List Ex), depthEs l ≤ nodesEs l
 | [] => Nat.le_refl _
 | x :: l => by have := depth_nodesE x; have := depth_nodesEs l; simp only [depthEs, nodesEs]; omega
end
theorem nodesE_pos (x : Ex) : 1 ≤ nodesE x := by cases x; simp only [nodesE]; omega
theorem depthE_pos (x : Ex) : 1 ≤ depthE x := by cases x; simp only [depthE]; omega
theorem nodesE_at {l : List Ex} {i : Nat} {x : Ex} (h : l[i]? = some x) : nodesE x ≤ nodesEs l := by
 have h1 := nodesEs_take h
 have h2 := nodesEs_le (l := l) (i := i + 1)
 omega
theorem depthE_at {l : List Ex} {i : Nat} {x : Ex} (h : l[i]? = some x) : depthE x ≤ depthEs l := by
 have h1 := depthEs_take h
 have h2 := depthEs_le (l := l) (i := i + 1)
 omega
theorem smallC {w : WD} {n d : Nat} {b : Bool} : GivesV (EE w) 52 [mA n d b] (.sc (.bool (decide (n ≤ 400) && decide (d ≤ 30) && !b))) := by
 refine GivesV.of (fun _ => .sc _) (.cons _ _ (.agg _ (.cons _ _ (.sc _) (.cons _ _ (.sc _) (.cons _ _ (.sc _) .nil)))) .nil) 1 ?_
 refine of_52 rfl rfl rfl (by kernel_rfl) ?_
 (repeat' first | ((first | refine vy1 ?_ ?_ | refine vy2 ?_ ?_ | refine vy3 ?_ ?_) <;> rintro ⟨hd, hq⟩ <;> first | (exfalso; omega) | simp -implicitDefEqProofs only [go_sem, hd] | skip) | refine vzt ?_ | refine vzf ?_ | refine vsb ?_ | refine vzb ?_ | refine vzq ?_ | simp -implicitDefEqProofs only [go_sem, mA])
 all_goals (refine ret_bool ?_; first | (rw [dct (by omega : n ≤ 400), dct (by omega : d ≤ 30)]; rfl) | (rw [dcf (by omega : ¬ d ≤ 30)]; simp; done) | (rw [dcf (by omega : ¬ n ≤ 400)]; simp; done))
theorem IsEx.cellsOk {x : Ex} {e : AVal} (h : IsEx x e) : (AVal.cells e).all AVal.isCell = true := by
 cases x with
 | mk k nm i l =>
  simp only [IsEx] at h
  obtain ⟨S, els, rfl, hS, _⟩ := h
  show ([(.sc (.int .i64 (k))), AVal.sc (.string nm), (.sc (.int .i64 (i))), S].all AVal.isCell) = true
  simp only [List.all_cons, List.all_nil, hS.isCell, isCell_int, isCell_str, Bool.and_self]
theorem IsA.splice {e : AVal} (h : IsA 4 e) {a b c d : AVal} : spliceL [a, b, c, d] 0 (AVal.cells e) = AVal.cells e := by
 obtain ⟨cs, rfl, hl⟩ := h
 match cs, hl with
 | [p, q, r, s], _ => rfl
theorem IsEx.splice {x : Ex} {e : AVal} (h : IsEx x e) {a b c d : AVal} : spliceL [a, b, c, d] 0 (AVal.cells e) = AVal.cells e := h.isA.splice
theorem expSizeC : ∀ {x : Ex} {w : WD} {v : AVal}, IsEx x v → nodesE x ≤ 1099511627776 → GivesV (EE w) 51 [v] (mA (nodesE x) (depthE x) (!fewE x))
 | .mk k nm i l, w, v, h, hb => by
  have hwf := h.wf
  simp only [IsEx] at h
  obtain ⟨S, els, rfl, hS, hs, hk, hi, hn, hl⟩ := h
  have hlen := hs.len
  have hbs : nodesEs l ≤ 1099511627776 := by simp only [nodesE] at hb; omega
  have hdn := depth_nodesEs l
  have ih : ∀ (w : WD) (j : Nat) e x, els[j]? = some e → l[j]? = some x → GivesV (EE w) 51 [e] (mA (nodesE x) (depthE x) (!fewE x)) := by
   intro w j e x he hx
   obtain ⟨x', hx', hxe⟩ := hs.all he
   rw [hx] at hx'; cases hx'
   have hdec := List.sizeOf_lt_of_mem (List.mem_of_getElem? hx)
   exact expSizeC hxe (by have := nodesE_at hx; omega)
  have kS := hS.fit
  have cS := hS.cells
  have iS := hS.isCell
  refine GivesV.of (fun _ => .sc _) (.cons _ _ hwf .nil) 2 ?_
  refine of_51 rfl rfl rfl (by kernel_rfl) ?_
  have hL : ∀ σ : AStore, aLen (.slice 0) S σ = some (.sc (.int .i64 l.length)) := fun σ => by rw [← hlen]; exact hS.len
  have hd : decide ((4 : Int) < (l.length : Int)) = !decide (l.length ≤ 4) := by (rw [Bool.eq_iff_iff]; simp only [Bool.or_eq_true, Bool.and_eq_true, Bool.not_eq_true', decide_eq_true_eq, decide_eq_false_iff_not, Bool.true_eq_false, Bool.false_eq_true, iff_true, true_iff, iff_false, false_iff]; omega)
  simp -implicitDefEqProofs only [go_sem, kS, cS, iS, hL, hd]
  refine vlp (ι := Nat) (fun i => [(1, .ptr 0 0 0), (2, .ptr 1 0 0), (3, .ptr 2 0 0), (12, S), (13, (.sc (.int .i64 (l.length)))), (14, (.sc (.int .i64 (i))))]) (fun i σ => i ≤ l.length ∧ 3 ≤ σ.next ∧ σ.get 2 = some (.cells 3 [mA (1 + nodesEs (l.take i)) (1 + depthEs (l.take i)) (!decide (l.length ≤ 4) || !fewEs (l.take i))]) ∧ ∃ n d b, σ.get 1 = some (.cells 3 [mA n d b])) (fun i => l.length - i) (fun _ => rfl) 0 ?_ ?_ ?_
  ·(repeat' (first | exact trivial | refine ⟨rfl, ?_⟩))
  ·refine ⟨Nat.zero_le _, by simp only [set_next, alloc_next, empty_next]; omega, ?_, 0, 0, false, ?_⟩
   ·rw [AStore.get_set, if_pos ⟨rfl, by simp only [alloc_next, empty_next]; omega⟩, List.take_zero]
    simp only [nodesEs, depthEs, fewEs, mA, Bool.not_true, Bool.or_false]; rfl
   ·rw [AStore.get_set, if_neg (by omega), AStore.get_alloc, if_neg (by simp only [alloc_next, empty_next]; omega), AStore.get_alloc]
    rfl
  rintro i σ ⟨hi2, h3, hg2, n0, d0, b0, hg1⟩
  simp -implicitDefEqProofs only [go_sem]
  ((first | refine vz2 ?_ ?_ | refine vz3 ?_ ?_) <;> intro h2)
  ·obtain ⟨x, hx⟩ : ∃ x, l[i]? = some x := ⟨l[i]'(by omega), by simp⟩
   obtain ⟨e, he, hxe⟩ := hs.at hx
   obtain ⟨c1, c2, c3⟩ := hxe.isA.facts
   have cc := hxe.cellsOk
   have hsp := fun a b c d => hxe.splice (a := a) (b := b) (c := c) (d := d)
   have hw := wrapS (i := i) (by omega)
   (repeat' first | ((first | refine vy1 ?_ ?_ | refine vy2 ?_ ?_ | refine vy3 ?_ ?_) <;> rintro ⟨hd, hq⟩ <;> first | (exfalso; omega) | simp -implicitDefEqProofs only [go_sem, hd] | skip) | refine vzt ?_ | refine vzf ?_ | refine vsb ?_ | refine vzb ?_ | refine vzq ?_ | simp -implicitDefEqProofs only [go_sem, hS.idx he, c1, c2, c3, cc, hsp])
   refine (ih _ i e x he hx).use ?_
   have hg2' : ∀ y z, ((σ.alloc y).set σ.next z).get 2 = some (.cells 3 [mA (1 + nodesEs (l.take i)) (1 + depthEs (l.take i)) (!decide (l.length ≤ 4) || !fewEs (l.take i))]) := by
    intro y z
    rw [AStore.get_set, if_neg (by omega)]
    exact get_alloc_old hg2
   have hg1' : ∀ y z, ((σ.alloc y).set σ.next z).get 1 = some (.cells 3 [mA n0 d0 b0]) := by
    intro y z
    rw [AStore.get_set, if_neg (by omega)]
    exact get_alloc_old hg1
   have hn1 := nodesE_at hx
   have hd1 := depthE_at hx
   have hn2 := nodesEs_le (l := l) (i := i)
   have hd2 := depthEs_le (l := l) (i := i)
   simp -implicitDefEqProofs only [go_sem]
   refine (mInC (hg2' _ _) (by omega) (by omega) (by omega) (by omega)).mono ?_
   rintro _ σ' ⟨rfl, u1, u2, u3⟩
   (repeat' first | ((first | refine vy1 ?_ ?_ | refine vy2 ?_ ?_ | refine vy3 ?_ ?_) <;> rintro ⟨hd, hq⟩ <;> first | (exfalso; omega) | simp -implicitDefEqProofs only [go_sem, hd] | skip) | refine vzt ?_ | refine vzf ?_ | refine vsb ?_ | refine vzb ?_ | refine vzq ?_ | simp -implicitDefEqProofs only [go_sem, hw])
   refine ⟨i + 1, by dsimp only; omega, ⟨by omega, ?_, ?_, n0, d0, b0, u3 1 _ (by omega) (hg1' _ _)⟩, ?_⟩
   ·simp only [set_next, alloc_next] at u1; omega
   ·rw [u2, nodesEs_take hx, depthEs_take hx, fewEs_take hx]
    have e1 : 1 + nodesEs (l.take i) + nodesE x = 1 + (nodesEs (l.take i) + nodesE x) := by omega
    have e2 : max (1 + depthEs (l.take i)) (1 + depthE x) = 1 + max (depthEs (l.take i)) (depthE x) := by omega
    rw [e1, e2]
    cases decide (l.length ≤ 4) <;> cases fewEs (l.take i) <;> cases fewE x <;> rfl
   ·(repeat' (first | exact trivial | refine ⟨rfl, ?_⟩))
  ·obtain rfl : i = l.length := by omega
   rw [List.take_length] at hg2
   have hlt1 := AStore.lt_of_get hg1
   (repeat' first | ((first | refine vy1 ?_ ?_ | refine vy2 ?_ ?_ | refine vy3 ?_ ?_) <;> rintro ⟨hd, hq⟩ <;> first | (exfalso; omega) | simp -implicitDefEqProofs only [go_sem, hd] | skip) | refine vzt ?_ | refine vzf ?_ | refine vsb ?_ | refine vzb ?_ | refine vzq ?_ | simp -implicitDefEqProofs only [go_sem, hg2, hg1, mA, hlt1])
   refine ⟨_, rfl, ?_⟩
   have e3 : (!decide (l.length ≤ 4) || !fewEs l) = !fewE (.mk k nm i l) := by simp only [fewE, Bool.not_and]
   simp only [nodesE, depthE, ← e3]
   rfl
termination_by x => sizeOf x
decreasing_by simp only [Ex.mk.sizeOf_spec]; omega
theorem checkExpC {w : WD} {x : Ex} {v : AVal} (h : IsEx x v) (hb : nodesE x ≤ 1099511627776) : GivesV (EE w) 26 [v] (.sc (.int .i64 (checkE nameB x))) := by
 have hwf := h.wf
 obtain ⟨c1, c2, c3⟩ := h.isA.facts
 have cc := h.cellsOk
 have hfit : v.fit = true := by obtain ⟨cs, rfl, _⟩ := h.isA; rfl
 have hF := fun w : WD => formedC (w := w) h
 have hZ := fun w : WD => expSizeC (w := w) h hb
 refine GivesV.of (fun _ => .sc _) (.cons _ _ hwf .nil) 1 ?_
 refine of_26 rfl rfl rfl (by kernel_rfl) ?_
 simp -implicitDefEqProofs only [go_sem, hfit, c1, c2, c3, cc]
 refine (hF _).use ?_
 unfold checkE
 cases formedB nameB x with
 | false =>
  (repeat' first | ((first | refine vy1 ?_ ?_ | refine vy2 ?_ ?_ | refine vy3 ?_ ?_) <;> rintro ⟨hd, hq⟩ <;> first | (exfalso; omega) | simp -implicitDefEqProofs only [go_sem, hd] | skip) | refine vzt ?_ | refine vzf ?_ | refine vsb ?_ | refine vzb ?_ | refine vzq ?_ | simp -implicitDefEqProofs only [go_sem])
  exact ⟨_, rfl, rfl⟩
 | true =>
  (repeat' first | ((first | refine vy1 ?_ ?_ | refine vy2 ?_ ?_ | refine vy3 ?_ ?_) <;> rintro ⟨hd, hq⟩ <;> first | (exfalso; omega) | simp -implicitDefEqProofs only [go_sem, hd] | skip) | refine vzt ?_ | refine vzf ?_ | refine vsb ?_ | refine vzb ?_ | refine vzq ?_ | simp -implicitDefEqProofs only [go_sem, c1, c2, c3])
  refine (hZ _).use ?_
  simp -implicitDefEqProofs only [go_sem]
  refine smallC.use ?_
  have e1 : (decide (nodesE x ≤ 400) && decide (depthE x ≤ 30) && !!fewE x) = smallE x := by unfold smallE; rw [Bool.not_not]
  rw [e1]
  cases smallE x with
  | false =>
   (repeat' first | ((first | refine vy1 ?_ ?_ | refine vy2 ?_ ?_ | refine vy3 ?_ ?_) <;> rintro ⟨hd, hq⟩ <;> first | (exfalso; omega) | simp -implicitDefEqProofs only [go_sem, hd] | skip) | refine vzt ?_ | refine vzf ?_ | refine vsb ?_ | refine vzb ?_ | refine vzq ?_ | simp -implicitDefEqProofs only [go_sem])
   exact ⟨_, rfl, rfl⟩
  | true =>
   (repeat' first | ((first | refine vy1 ?_ ?_ | refine vy2 ?_ ?_ | refine vy3 ?_ ?_) <;> rintro ⟨hd, hq⟩ <;> first | (exfalso; omega) | simp -implicitDefEqProofs only [go_sem, hd] | skip) | refine vzt ?_ | refine vzf ?_ | refine vsb ?_ | refine vzb ?_ | refine vzq ?_ | simp -implicitDefEqProofs only [go_sem])
   exact ⟨_, rfl, rfl⟩
theorem IsSt.cellsOk {x : St} {e : AVal} (h : IsSt x e) : (AVal.cells e).all AVal.isCell = true := by
 cases x with
 | mk k nm v b els =>
  simp only [IsSt] at h
  obtain ⟨SA, SB, SE, ea, eb, ee, rfl, hA, ha, hB, hb, hE, he, _⟩ := h
  show ([(.sc (.int .i64 (k))), AVal.sc (.string nm), (.sc (.int .i64 (v.k))), AVal.sc (.string v.nm), (.sc (.int .i64 (v.i))), SA, SB, SE].all AVal.isCell) = true
  simp only [List.all_cons, List.all_nil, hA.isCell, hB.isCell, hE.isCell, isCell_int, isCell_str, Bool.and_self]
theorem ex_of {v : Ex} {SA : AVal} {ea : List AVal} (hA : IsD 4 SA ea) (ha : IsExs v.args ea) (h1 : in64 v.k) (h2 : in64 v.i) (h3 : v.nm.size ≤ 281474976710656) (h4 : ea.length ≤ 281474976710656) :
  IsEx v (.agg [(.sc (.int .i64 (v.k))), .sc (.string v.nm), (.sc (.int .i64 (v.i))), SA]) := by
 cases v with
 | mk k nm i l =>
  simp only [IsEx]
  exact ⟨SA, ea, rfl, hA, ha, h1, h2, h3, h4⟩
theorem formedSs_at {l : List St} : formedSs nameB l = !decide (∃ j, j < l.length ∧ (match l[j]? with | some x => !formedS nameB x | none => false) = true) := by
 rw [formedSs_all, Bool.eq_iff_iff, List.all_eq_true, Bool.not_eq_true', decide_eq_false_iff_not]
 constructor
 ·rintro h ⟨j, hj, hb⟩
  rw [List.getElem?_eq_getElem hj] at hb
  simp [h _ (List.getElem_mem hj)] at hb
 ·intro h x hx
  obtain ⟨j, hj, rfl⟩ := List.mem_iff_getElem.1 hx
  cases hb : formedS nameB l[j] with
  | true => rfl
  | false => exact absurd ⟨j, hj, by rw [List.getElem?_eq_getElem hj]; simp [hb]⟩ h
theorem formedS1C {w : WD} {x : St} {v : AVal} (h : IsSt x v) (hf : ∀ w : WD, GivesV (EE w) 68 [v] (.sc (.bool (formedS nameB x)))) : GivesV (EE w) 92 [v] (.sc (.bool (!formedS nameB x))) := by
 refine GivesV.of (fun _ => .sc _) (.cons _ _ h.wf .nil) 1 ?_
 obtain ⟨c1, c2, c3⟩ := h.isA.facts
 obtain ⟨cs, rfl, hl⟩ := h.isA
 simp only [cells_agg] at c1 c2
 refine of_92 rfl rfl rfl (by kernel_rfl) ?_
 simp -implicitDefEqProofs only [go_sem, c1, c2]
 refine (hf _).use ?_
 (repeat' first | ((first | refine vy1 ?_ ?_ | refine vy2 ?_ ?_ | refine vy3 ?_ ?_) <;> rintro ⟨hd, hq⟩ <;> first | (exfalso; omega) | simp -implicitDefEqProofs only [go_sem, hd] | skip) | refine vzt ?_ | refine vzf ?_ | refine vsb ?_ | refine vzb ?_ | refine vzq ?_ | simp -implicitDefEqProofs only [go_sem])
 exact ret_bool rfl
theorem formedS2C {w : WD} {x : St} {v : AVal} (h : IsSt x v) (hf : ∀ w : WD, GivesV (EE w) 68 [v] (.sc (.bool (formedS nameB x)))) : GivesV (EE w) 67 [v] (.sc (.bool (!formedS nameB x))) := by
 refine GivesV.of (fun _ => .sc _) (.cons _ _ h.wf .nil) 1 ?_
 obtain ⟨c1, c2, c3⟩ := h.isA.facts
 obtain ⟨cs, rfl, hl⟩ := h.isA
 simp only [cells_agg] at c1 c2
 refine of_67 rfl rfl rfl (by kernel_rfl) ?_
 simp -implicitDefEqProofs only [go_sem, c1, c2]
 refine (hf _).use ?_
 (repeat' first | ((first | refine vy1 ?_ ?_ | refine vy2 ?_ ?_ | refine vy3 ?_ ?_) <;> rintro ⟨hd, hq⟩ <;> first | (exfalso; omega) | simp -implicitDefEqProofs only [go_sem, hd] | skip) | refine vzt ?_ | refine vzf ?_ | refine vsb ?_ | refine vzb ?_ | refine vzq ?_ | simp -implicitDefEqProofs only [go_sem])
 exact ret_bool rfl
theorem formedSStep {k : Int} {nm : ByteArray} {v : Ex} {body els : List St} {w : WD} {z : AVal} (h : IsSt (.mk k nm v body els) z) (rec : ∀ y, (y ∈ body ∨ y ∈ els) → ∀ (w : WD) (v : AVal), IsSt y v → GivesV (EE w) 68 [v] (.sc (.bool (formedS nameB y)))) : GivesV (EE w) 68 [z] (.sc (.bool (formedS nameB (.mk k nm v body els)))) := by
  have hwf := h.wf
  have ccz := h.cellsOk
  simp only [IsSt] at h
  obtain ⟨SA, SB, SE, ea, eb, ee, rfl, hA, ha, hB, hb, hE, he, h1, h2, h3, h4, h5, h6, h7, h8⟩ := h
  have hvx := ex_of hA ha h2 h3 h5 h6
  have hFv := fun w : WD => formedC (w := w) hvx
  have hlb := hb.len
  have hle := he.len
  have ihb : ∀ (w : WD) (j : Nat) e, eb[j]? = some e → GivesV (EE w) 92 [e] (.sc (.bool (match body[j]? with | some x => !formedS nameB x | none => false))) := by
   intro w j e hj
   obtain ⟨x, hx, hxe⟩ := hb.all hj
   rw [hx]
   exact formedS1C hxe fun w => rec x (.inl (List.mem_of_getElem? hx)) w e hxe
  have ihe : ∀ (w : WD) (j : Nat) e, ee[j]? = some e → GivesV (EE w) 92 [e] (.sc (.bool (match els[j]? with | some x => !formedS nameB x | none => false))) := by
   intro w j e hj
   obtain ⟨x, hx, hxe⟩ := he.all hj
   rw [hx]
   exact formedS1C hxe fun w => rec x (.inr (List.mem_of_getElem? hx)) w e hxe
  have hFb := fun w : WD => containsFSC (w := w) hB (by omega) hb.isA hb.wf (g := 92) (fun w => by kernel_rfl) _ (ihb)
  have hFe := fun w : WD => containsFSC (w := w) hE (by omega) he.isA he.wf (g := 92) (fun w => by kernel_rfl) _ (ihe)
  have kA := hA.fit
  have cA := hA.cells
  have iA' := hA.isCell
  have kB := hB.fit
  have cB := hB.cells
  have iB := hB.isCell
  have kE := hE.fit
  have cE := hE.cells
  have iE := hE.isCell
  have hform : formedS nameB (.mk k nm v body els) = ((decide (1 ≤ k) && decide (k ≤ 5)) && (if k = 1 ∨ k = 2 then nameB nm else decide (nm.size = 0)) && formedB nameB v && ((decide (body.length = 0) || (decide (k = 3) || decide (k = 4))) && (decide (els.length = 0) || decide (k = 3))) && formedSs nameB body && formedSs nameB els) := rfl
  have eb1 : decide (∃ j, j < eb.length ∧ (match body[j]? with | some x => !formedS nameB x | none => false) = true) = !formedSs nameB body := by rw [formedSs_at, hlb, Bool.not_not]
  have ee1 : decide (∃ j, j < ee.length ∧ (match els[j]? with | some x => !formedS nameB x | none => false) = true) = !formedSs nameB els := by rw [formedSs_at, hle, Bool.not_not]
  simp only [eb1] at hFb
  simp only [ee1] at hFe
  clear ihb ihe eb1 ee1
  rw [hform]
  clear hform
  have e2 : decide (nm = ⟨#[]⟩) = decide (nm.size = 0) := nm_empty
  have hLb : ∀ σ : AStore, aLen (.slice 0) SB σ = some (.sc (.int .i64 body.length)) := fun σ => by rw [← hlb]; exact hB.len
  have hLe : ∀ σ : AStore, aLen (.slice 0) SE σ = some (.sc (.int .i64 els.length)) := fun σ => by rw [← hle]; exact hE.len
  have zb : decide ((body.length : Int) = 0) = decide (body.length = 0) := decide_eq_decide.mpr (by omega)
  have ze : decide ((els.length : Int) = 0) = decide (els.length = 0) := decide_eq_decide.mpr (by omega)
  generalize decide (body.length = 0) = lb at *
  generalize decide (els.length = 0) = le at *
  refine GivesV.of (fun _ => .sc _) (.cons _ _ hwf .nil) 1 ?_
  refine of_68 rfl rfl rfl (by kernel_rfl) ?_
  by_cases kl : k < 1
  ·have d1 : decide (1 ≤ k) = false := dcf (by omega)
   have d2 : ¬ (k = 1 ∨ k = 2) := by omega
   rw [if_neg d2, d1]
   have d3 : decide (k = 1) = false := dcf (by omega)
   have d4 : decide (k = 2) = false := dcf (by omega)
   simp -implicitDefEqProofs only [go_sem, d1, d3, d4, hLb, hLe, zb, ze, ba_list, e2, kA, cA, iA', kB, cB, iB, kE, cE, iE]
   refine vzf ?_
   (repeat' first | ((first | refine vy1 ?_ ?_ | refine vy2 ?_ ?_ | refine vy3 ?_ ?_) <;> rintro ⟨hd, hq⟩ <;> first | (exfalso; omega) | simp -implicitDefEqProofs only [go_sem, hd] | skip) | refine vzt ?_ | refine vzf ?_ | refine vsb ?_ | refine vzb ?_ | refine vzq ?_ | simp -implicitDefEqProofs only [go_sem, d1, d3, d4, hLb, hLe, zb, ze, ba_list, e2])
   exact ret_bool (by simp)
  by_cases kg : 5 < k
  ·have d1 : decide (1 ≤ k) = true := dct (by omega)
   have d5 : decide (k ≤ 5) = false := dcf (by omega)
   have d2 : ¬ (k = 1 ∨ k = 2) := by omega
   rw [if_neg d2, d5]
   have d3 : decide (k = 1) = false := dcf (by omega)
   have d4 : decide (k = 2) = false := dcf (by omega)
   simp -implicitDefEqProofs only [go_sem, d1, d3, d4, d5, hLb, hLe, zb, ze, ba_list, e2, kA, cA, iA', kB, cB, iB, kE, cE, iE]
   refine vzf ?_
   (repeat' first | ((first | refine vy1 ?_ ?_ | refine vy2 ?_ ?_ | refine vy3 ?_ ?_) <;> rintro ⟨hd, hq⟩ <;> first | (exfalso; omega) | simp -implicitDefEqProofs only [go_sem, hd] | skip) | refine vzt ?_ | refine vzf ?_ | refine vsb ?_ | refine vzb ?_ | refine vzq ?_ | simp -implicitDefEqProofs only [go_sem, d1, d3, d4, d5, hLb, hLe, zb, ze, ba_list, e2])
   exact ret_bool (by simp)
  have d1 : decide (1 ≤ k) = true := dct (by omega)
  have d5 : decide (k ≤ 5) = true := dct (by omega)
  rw [d1, d5]
  by_cases k1 : k = 1
  ·subst k1
   rw [if_pos (by omega)]
   have q1 : decide ((1 : Int) = 1) = true := by decide
   have q2 : decide ((1 : Int) = 2) = false := by decide
   have q3 : decide ((1 : Int) = 3) = false := by decide
   have q4 : decide ((1 : Int) = 4) = false := by decide
   have q5 : decide ((1 : Int) ≤ 1) = true := by decide
   have q6 : decide ((1 : Int) ≤ 5) = true := by decide
   simp -implicitDefEqProofs only [go_sem, q1, q2, q3, q4, q5, q6, hLb, hLe, zb, ze, ba_list, e2, kA, cA, iA', kB, cB, iB, kE, cE, iE]
   refine vzt ?_
   simp -implicitDefEqProofs only [go_sem, q1, q2, q3, q4, q5, q6, hLb, hLe, zb, ze, ba_list, e2, kA, cA, iA', kB, cB, iB, kE, cE, iE]
   refine (nameC nm).use ?_
   generalize nameB nm = nb
   cases nb with
   | false => ((repeat' first | ((first | refine vy1 ?_ ?_ | refine vy2 ?_ ?_ | refine vy3 ?_ ?_) <;> rintro ⟨hd, hq⟩ <;> first | (exfalso; omega) | simp -implicitDefEqProofs only [go_sem, hd] | skip) | refine vzt ?_ | refine vzf ?_ | refine vsb ?_ | refine vzb ?_ | refine vzq ?_ | simp -implicitDefEqProofs only [go_sem, q1, q2, q3, q4, q5, q6, hLb, hLe, zb, ze, ba_list, e2, kA, cA, iA', kB, cB, iB, kE, cE, iE]); exact ret_bool (by simp))
   | true =>
   (repeat' first | ((first | refine vy1 ?_ ?_ | refine vy2 ?_ ?_ | refine vy3 ?_ ?_) <;> rintro ⟨hd, hq⟩ <;> first | (exfalso; omega) | simp -implicitDefEqProofs only [go_sem, hd] | skip) | refine vzt ?_ | refine vzf ?_ | refine vsb ?_ | refine vzb ?_ | refine vzq ?_ | simp -implicitDefEqProofs only [go_sem, q1, q2, q3, q4, q5, q6, hLb, hLe, zb, ze, ba_list, e2, kA, cA, iA', kB, cB, iB, kE, cE, iE])
   refine (hFv _).use ?_
   cases formedB nameB v with
   | false => ((repeat' first | ((first | refine vy1 ?_ ?_ | refine vy2 ?_ ?_ | refine vy3 ?_ ?_) <;> rintro ⟨hd, hq⟩ <;> first | (exfalso; omega) | simp -implicitDefEqProofs only [go_sem, hd] | skip) | refine vzt ?_ | refine vzf ?_ | refine vsb ?_ | refine vzb ?_ | refine vzq ?_ | simp -implicitDefEqProofs only [go_sem, q1, q2, q3, q4, q5, q6, hLb, hLe, zb, ze, ba_list, e2, kA, cA, iA', kB, cB, iB, kE, cE, iE]); exact ret_bool (by simp))
   | true =>
   cases lb with
   | false => ((repeat' first | ((first | refine vy1 ?_ ?_ | refine vy2 ?_ ?_ | refine vy3 ?_ ?_) <;> rintro ⟨hd, hq⟩ <;> first | (exfalso; omega) | simp -implicitDefEqProofs only [go_sem, hd] | skip) | refine vzt ?_ | refine vzf ?_ | refine vsb ?_ | refine vzb ?_ | refine vzq ?_ | simp -implicitDefEqProofs only [go_sem, q1, q2, q3, q4, q5, q6, hLb, hLe, zb, ze, ba_list, e2, kA, cA, iA', kB, cB, iB, kE, cE, iE]); exact ret_bool (by simp))
   | true =>
   cases le with
   | false => ((repeat' first | ((first | refine vy1 ?_ ?_ | refine vy2 ?_ ?_ | refine vy3 ?_ ?_) <;> rintro ⟨hd, hq⟩ <;> first | (exfalso; omega) | simp -implicitDefEqProofs only [go_sem, hd] | skip) | refine vzt ?_ | refine vzf ?_ | refine vsb ?_ | refine vzb ?_ | refine vzq ?_ | simp -implicitDefEqProofs only [go_sem, q1, q2, q3, q4, q5, q6, hLb, hLe, zb, ze, ba_list, e2, kA, cA, iA', kB, cB, iB, kE, cE, iE]); exact ret_bool (by simp))
   | true =>
   (repeat' first | ((first | refine vy1 ?_ ?_ | refine vy2 ?_ ?_ | refine vy3 ?_ ?_) <;> rintro ⟨hd, hq⟩ <;> first | (exfalso; omega) | simp -implicitDefEqProofs only [go_sem, hd] | skip) | refine vzt ?_ | refine vzf ?_ | refine vsb ?_ | refine vzb ?_ | refine vzq ?_ | simp -implicitDefEqProofs only [go_sem, q1, q2, q3, q4, q5, q6, hLb, hLe, zb, ze, ba_list, e2, kA, cA, iA', kB, cB, iB, kE, cE, iE])
   refine (hFb _).use ?_
   cases formedSs nameB body with
   | false => ((repeat' first | ((first | refine vy1 ?_ ?_ | refine vy2 ?_ ?_ | refine vy3 ?_ ?_) <;> rintro ⟨hd, hq⟩ <;> first | (exfalso; omega) | simp -implicitDefEqProofs only [go_sem, hd] | skip) | refine vzt ?_ | refine vzf ?_ | refine vsb ?_ | refine vzb ?_ | refine vzq ?_ | simp -implicitDefEqProofs only [go_sem, q1, q2, q3, q4, q5, q6, hLb, hLe, zb, ze, ba_list, e2, kA, cA, iA', kB, cB, iB, kE, cE, iE]); exact ret_bool (by simp))
   | true =>
   (repeat' first | ((first | refine vy1 ?_ ?_ | refine vy2 ?_ ?_ | refine vy3 ?_ ?_) <;> rintro ⟨hd, hq⟩ <;> first | (exfalso; omega) | simp -implicitDefEqProofs only [go_sem, hd] | skip) | refine vzt ?_ | refine vzf ?_ | refine vsb ?_ | refine vzb ?_ | refine vzq ?_ | simp -implicitDefEqProofs only [go_sem, q1, q2, q3, q4, q5, q6, hLb, hLe, zb, ze, ba_list, e2, kA, cA, iA', kB, cB, iB, kE, cE, iE])
   refine (hFe _).use ?_
   cases formedSs nameB els with
   | false => ((repeat' first | ((first | refine vy1 ?_ ?_ | refine vy2 ?_ ?_ | refine vy3 ?_ ?_) <;> rintro ⟨hd, hq⟩ <;> first | (exfalso; omega) | simp -implicitDefEqProofs only [go_sem, hd] | skip) | refine vzt ?_ | refine vzf ?_ | refine vsb ?_ | refine vzb ?_ | refine vzq ?_ | simp -implicitDefEqProofs only [go_sem, q1, q2, q3, q4, q5, q6, hLb, hLe, zb, ze, ba_list, e2, kA, cA, iA', kB, cB, iB, kE, cE, iE]); exact ret_bool (by simp))
   | true => ((repeat' first | ((first | refine vy1 ?_ ?_ | refine vy2 ?_ ?_ | refine vy3 ?_ ?_) <;> rintro ⟨hd, hq⟩ <;> first | (exfalso; omega) | simp -implicitDefEqProofs only [go_sem, hd] | skip) | refine vzt ?_ | refine vzf ?_ | refine vsb ?_ | refine vzb ?_ | refine vzq ?_ | simp -implicitDefEqProofs only [go_sem, q1, q2, q3, q4, q5, q6, hLb, hLe, zb, ze, ba_list, e2, kA, cA, iA', kB, cB, iB, kE, cE, iE]); exact ret_bool (by simp))
  by_cases k2 : k = 2
  ·subst k2
   rw [if_pos (by omega)]
   have q1 : decide ((2 : Int) = 1) = false := by decide
   have q2 : decide ((2 : Int) = 2) = true := by decide
   have q3 : decide ((2 : Int) = 3) = false := by decide
   have q4 : decide ((2 : Int) = 4) = false := by decide
   have q5 : decide ((1 : Int) ≤ 2) = true := by decide
   have q6 : decide ((2 : Int) ≤ 5) = true := by decide
   simp -implicitDefEqProofs only [go_sem, q1, q2, q3, q4, q5, q6, hLb, hLe, zb, ze, ba_list, e2, kA, cA, iA', kB, cB, iB, kE, cE, iE]
   refine vzt ?_
   simp -implicitDefEqProofs only [go_sem, q1, q2, q3, q4, q5, q6, hLb, hLe, zb, ze, ba_list, e2, kA, cA, iA', kB, cB, iB, kE, cE, iE]
   refine (nameC nm).use ?_
   generalize nameB nm = nb
   cases nb with
   | false => ((repeat' first | ((first | refine vy1 ?_ ?_ | refine vy2 ?_ ?_ | refine vy3 ?_ ?_) <;> rintro ⟨hd, hq⟩ <;> first | (exfalso; omega) | simp -implicitDefEqProofs only [go_sem, hd] | skip) | refine vzt ?_ | refine vzf ?_ | refine vsb ?_ | refine vzb ?_ | refine vzq ?_ | simp -implicitDefEqProofs only [go_sem, q1, q2, q3, q4, q5, q6, hLb, hLe, zb, ze, ba_list, e2, kA, cA, iA', kB, cB, iB, kE, cE, iE]); exact ret_bool (by simp))
   | true =>
   (repeat' first | ((first | refine vy1 ?_ ?_ | refine vy2 ?_ ?_ | refine vy3 ?_ ?_) <;> rintro ⟨hd, hq⟩ <;> first | (exfalso; omega) | simp -implicitDefEqProofs only [go_sem, hd] | skip) | refine vzt ?_ | refine vzf ?_ | refine vsb ?_ | refine vzb ?_ | refine vzq ?_ | simp -implicitDefEqProofs only [go_sem, q1, q2, q3, q4, q5, q6, hLb, hLe, zb, ze, ba_list, e2, kA, cA, iA', kB, cB, iB, kE, cE, iE])
   refine (hFv _).use ?_
   cases formedB nameB v with
   | false => ((repeat' first | ((first | refine vy1 ?_ ?_ | refine vy2 ?_ ?_ | refine vy3 ?_ ?_) <;> rintro ⟨hd, hq⟩ <;> first | (exfalso; omega) | simp -implicitDefEqProofs only [go_sem, hd] | skip) | refine vzt ?_ | refine vzf ?_ | refine vsb ?_ | refine vzb ?_ | refine vzq ?_ | simp -implicitDefEqProofs only [go_sem, q1, q2, q3, q4, q5, q6, hLb, hLe, zb, ze, ba_list, e2, kA, cA, iA', kB, cB, iB, kE, cE, iE]); exact ret_bool (by simp))
   | true =>
   cases lb with
   | false => ((repeat' first | ((first | refine vy1 ?_ ?_ | refine vy2 ?_ ?_ | refine vy3 ?_ ?_) <;> rintro ⟨hd, hq⟩ <;> first | (exfalso; omega) | simp -implicitDefEqProofs only [go_sem, hd] | skip) | refine vzt ?_ | refine vzf ?_ | refine vsb ?_ | refine vzb ?_ | refine vzq ?_ | simp -implicitDefEqProofs only [go_sem, q1, q2, q3, q4, q5, q6, hLb, hLe, zb, ze, ba_list, e2, kA, cA, iA', kB, cB, iB, kE, cE, iE]); exact ret_bool (by simp))
   | true =>
   cases le with
   | false => ((repeat' first | ((first | refine vy1 ?_ ?_ | refine vy2 ?_ ?_ | refine vy3 ?_ ?_) <;> rintro ⟨hd, hq⟩ <;> first | (exfalso; omega) | simp -implicitDefEqProofs only [go_sem, hd] | skip) | refine vzt ?_ | refine vzf ?_ | refine vsb ?_ | refine vzb ?_ | refine vzq ?_ | simp -implicitDefEqProofs only [go_sem, q1, q2, q3, q4, q5, q6, hLb, hLe, zb, ze, ba_list, e2, kA, cA, iA', kB, cB, iB, kE, cE, iE]); exact ret_bool (by simp))
   | true =>
   (repeat' first | ((first | refine vy1 ?_ ?_ | refine vy2 ?_ ?_ | refine vy3 ?_ ?_) <;> rintro ⟨hd, hq⟩ <;> first | (exfalso; omega) | simp -implicitDefEqProofs only [go_sem, hd] | skip) | refine vzt ?_ | refine vzf ?_ | refine vsb ?_ | refine vzb ?_ | refine vzq ?_ | simp -implicitDefEqProofs only [go_sem, q1, q2, q3, q4, q5, q6, hLb, hLe, zb, ze, ba_list, e2, kA, cA, iA', kB, cB, iB, kE, cE, iE])
   refine (hFb _).use ?_
   cases formedSs nameB body with
   | false => ((repeat' first | ((first | refine vy1 ?_ ?_ | refine vy2 ?_ ?_ | refine vy3 ?_ ?_) <;> rintro ⟨hd, hq⟩ <;> first | (exfalso; omega) | simp -implicitDefEqProofs only [go_sem, hd] | skip) | refine vzt ?_ | refine vzf ?_ | refine vsb ?_ | refine vzb ?_ | refine vzq ?_ | simp -implicitDefEqProofs only [go_sem, q1, q2, q3, q4, q5, q6, hLb, hLe, zb, ze, ba_list, e2, kA, cA, iA', kB, cB, iB, kE, cE, iE]); exact ret_bool (by simp))
   | true =>
   (repeat' first | ((first | refine vy1 ?_ ?_ | refine vy2 ?_ ?_ | refine vy3 ?_ ?_) <;> rintro ⟨hd, hq⟩ <;> first | (exfalso; omega) | simp -implicitDefEqProofs only [go_sem, hd] | skip) | refine vzt ?_ | refine vzf ?_ | refine vsb ?_ | refine vzb ?_ | refine vzq ?_ | simp -implicitDefEqProofs only [go_sem, q1, q2, q3, q4, q5, q6, hLb, hLe, zb, ze, ba_list, e2, kA, cA, iA', kB, cB, iB, kE, cE, iE])
   refine (hFe _).use ?_
   cases formedSs nameB els with
   | false => ((repeat' first | ((first | refine vy1 ?_ ?_ | refine vy2 ?_ ?_ | refine vy3 ?_ ?_) <;> rintro ⟨hd, hq⟩ <;> first | (exfalso; omega) | simp -implicitDefEqProofs only [go_sem, hd] | skip) | refine vzt ?_ | refine vzf ?_ | refine vsb ?_ | refine vzb ?_ | refine vzq ?_ | simp -implicitDefEqProofs only [go_sem, q1, q2, q3, q4, q5, q6, hLb, hLe, zb, ze, ba_list, e2, kA, cA, iA', kB, cB, iB, kE, cE, iE]); exact ret_bool (by simp))
   | true => ((repeat' first | ((first | refine vy1 ?_ ?_ | refine vy2 ?_ ?_ | refine vy3 ?_ ?_) <;> rintro ⟨hd, hq⟩ <;> first | (exfalso; omega) | simp -implicitDefEqProofs only [go_sem, hd] | skip) | refine vzt ?_ | refine vzf ?_ | refine vsb ?_ | refine vzb ?_ | refine vzq ?_ | simp -implicitDefEqProofs only [go_sem, q1, q2, q3, q4, q5, q6, hLb, hLe, zb, ze, ba_list, e2, kA, cA, iA', kB, cB, iB, kE, cE, iE]); exact ret_bool (by simp))
  by_cases k3 : k = 3
  ·subst k3
   rw [if_neg (by omega)]
   have q1 : decide ((3 : Int) = 1) = false := by decide
   have q2 : decide ((3 : Int) = 2) = false := by decide
   have q3 : decide ((3 : Int) = 3) = true := by decide
   have q4 : decide ((3 : Int) = 4) = false := by decide
   have q5 : decide ((1 : Int) ≤ 3) = true := by decide
   have q6 : decide ((3 : Int) ≤ 5) = true := by decide
   generalize decide (nm.size = 0) = nb at *
   simp -implicitDefEqProofs only [go_sem, q1, q2, q3, q4, q5, q6, hLb, hLe, zb, ze, ba_list, e2, kA, cA, iA', kB, cB, iB, kE, cE, iE]
   refine vzf ?_
   cases nb with
   | false => ((repeat' first | ((first | refine vy1 ?_ ?_ | refine vy2 ?_ ?_ | refine vy3 ?_ ?_) <;> rintro ⟨hd, hq⟩ <;> first | (exfalso; omega) | simp -implicitDefEqProofs only [go_sem, hd] | skip) | refine vzt ?_ | refine vzf ?_ | refine vsb ?_ | refine vzb ?_ | refine vzq ?_ | simp -implicitDefEqProofs only [go_sem, q1, q2, q3, q4, q5, q6, hLb, hLe, zb, ze, ba_list, e2, kA, cA, iA', kB, cB, iB, kE, cE, iE]); exact ret_bool (by simp))
   | true =>
   (repeat' first | ((first | refine vy1 ?_ ?_ | refine vy2 ?_ ?_ | refine vy3 ?_ ?_) <;> rintro ⟨hd, hq⟩ <;> first | (exfalso; omega) | simp -implicitDefEqProofs only [go_sem, hd] | skip) | refine vzt ?_ | refine vzf ?_ | refine vsb ?_ | refine vzb ?_ | refine vzq ?_ | simp -implicitDefEqProofs only [go_sem, q1, q2, q3, q4, q5, q6, hLb, hLe, zb, ze, ba_list, e2, kA, cA, iA', kB, cB, iB, kE, cE, iE])
   refine (hFv _).use ?_
   cases formedB nameB v with
   | false => ((repeat' first | ((first | refine vy1 ?_ ?_ | refine vy2 ?_ ?_ | refine vy3 ?_ ?_) <;> rintro ⟨hd, hq⟩ <;> first | (exfalso; omega) | simp -implicitDefEqProofs only [go_sem, hd] | skip) | refine vzt ?_ | refine vzf ?_ | refine vsb ?_ | refine vzb ?_ | refine vzq ?_ | simp -implicitDefEqProofs only [go_sem, q1, q2, q3, q4, q5, q6, hLb, hLe, zb, ze, ba_list, e2, kA, cA, iA', kB, cB, iB, kE, cE, iE]); exact ret_bool (by simp))
   | true =>
   cases lb with
   | false =>
    cases le with
    | false =>
     (repeat' first | ((first | refine vy1 ?_ ?_ | refine vy2 ?_ ?_ | refine vy3 ?_ ?_) <;> rintro ⟨hd, hq⟩ <;> first | (exfalso; omega) | simp -implicitDefEqProofs only [go_sem, hd] | skip) | refine vzt ?_ | refine vzf ?_ | refine vsb ?_ | refine vzb ?_ | refine vzq ?_ | simp -implicitDefEqProofs only [go_sem, q1, q2, q3, q4, q5, q6, hLb, hLe, zb, ze, ba_list, e2, kA, cA, iA', kB, cB, iB, kE, cE, iE])
     refine (hFb _).use ?_
     cases formedSs nameB body with
     | false => ((repeat' first | ((first | refine vy1 ?_ ?_ | refine vy2 ?_ ?_ | refine vy3 ?_ ?_) <;> rintro ⟨hd, hq⟩ <;> first | (exfalso; omega) | simp -implicitDefEqProofs only [go_sem, hd] | skip) | refine vzt ?_ | refine vzf ?_ | refine vsb ?_ | refine vzb ?_ | refine vzq ?_ | simp -implicitDefEqProofs only [go_sem, q1, q2, q3, q4, q5, q6, hLb, hLe, zb, ze, ba_list, e2, kA, cA, iA', kB, cB, iB, kE, cE, iE]); exact ret_bool (by simp))
     | true =>
     (repeat' first | ((first | refine vy1 ?_ ?_ | refine vy2 ?_ ?_ | refine vy3 ?_ ?_) <;> rintro ⟨hd, hq⟩ <;> first | (exfalso; omega) | simp -implicitDefEqProofs only [go_sem, hd] | skip) | refine vzt ?_ | refine vzf ?_ | refine vsb ?_ | refine vzb ?_ | refine vzq ?_ | simp -implicitDefEqProofs only [go_sem, q1, q2, q3, q4, q5, q6, hLb, hLe, zb, ze, ba_list, e2, kA, cA, iA', kB, cB, iB, kE, cE, iE])
     refine (hFe _).use ?_
     cases formedSs nameB els with
     | false => ((repeat' first | ((first | refine vy1 ?_ ?_ | refine vy2 ?_ ?_ | refine vy3 ?_ ?_) <;> rintro ⟨hd, hq⟩ <;> first | (exfalso; omega) | simp -implicitDefEqProofs only [go_sem, hd] | skip) | refine vzt ?_ | refine vzf ?_ | refine vsb ?_ | refine vzb ?_ | refine vzq ?_ | simp -implicitDefEqProofs only [go_sem, q1, q2, q3, q4, q5, q6, hLb, hLe, zb, ze, ba_list, e2, kA, cA, iA', kB, cB, iB, kE, cE, iE]); exact ret_bool (by simp))
     | true => ((repeat' first | ((first | refine vy1 ?_ ?_ | refine vy2 ?_ ?_ | refine vy3 ?_ ?_) <;> rintro ⟨hd, hq⟩ <;> first | (exfalso; omega) | simp -implicitDefEqProofs only [go_sem, hd] | skip) | refine vzt ?_ | refine vzf ?_ | refine vsb ?_ | refine vzb ?_ | refine vzq ?_ | simp -implicitDefEqProofs only [go_sem, q1, q2, q3, q4, q5, q6, hLb, hLe, zb, ze, ba_list, e2, kA, cA, iA', kB, cB, iB, kE, cE, iE]); exact ret_bool (by simp))
    | true =>
     (repeat' first | ((first | refine vy1 ?_ ?_ | refine vy2 ?_ ?_ | refine vy3 ?_ ?_) <;> rintro ⟨hd, hq⟩ <;> first | (exfalso; omega) | simp -implicitDefEqProofs only [go_sem, hd] | skip) | refine vzt ?_ | refine vzf ?_ | refine vsb ?_ | refine vzb ?_ | refine vzq ?_ | simp -implicitDefEqProofs only [go_sem, q1, q2, q3, q4, q5, q6, hLb, hLe, zb, ze, ba_list, e2, kA, cA, iA', kB, cB, iB, kE, cE, iE])
     refine (hFb _).use ?_
     cases formedSs nameB body with
     | false => ((repeat' first | ((first | refine vy1 ?_ ?_ | refine vy2 ?_ ?_ | refine vy3 ?_ ?_) <;> rintro ⟨hd, hq⟩ <;> first | (exfalso; omega) | simp -implicitDefEqProofs only [go_sem, hd] | skip) | refine vzt ?_ | refine vzf ?_ | refine vsb ?_ | refine vzb ?_ | refine vzq ?_ | simp -implicitDefEqProofs only [go_sem, q1, q2, q3, q4, q5, q6, hLb, hLe, zb, ze, ba_list, e2, kA, cA, iA', kB, cB, iB, kE, cE, iE]); exact ret_bool (by simp))
     | true =>
     (repeat' first | ((first | refine vy1 ?_ ?_ | refine vy2 ?_ ?_ | refine vy3 ?_ ?_) <;> rintro ⟨hd, hq⟩ <;> first | (exfalso; omega) | simp -implicitDefEqProofs only [go_sem, hd] | skip) | refine vzt ?_ | refine vzf ?_ | refine vsb ?_ | refine vzb ?_ | refine vzq ?_ | simp -implicitDefEqProofs only [go_sem, q1, q2, q3, q4, q5, q6, hLb, hLe, zb, ze, ba_list, e2, kA, cA, iA', kB, cB, iB, kE, cE, iE])
     refine (hFe _).use ?_
     cases formedSs nameB els with
     | false => ((repeat' first | ((first | refine vy1 ?_ ?_ | refine vy2 ?_ ?_ | refine vy3 ?_ ?_) <;> rintro ⟨hd, hq⟩ <;> first | (exfalso; omega) | simp -implicitDefEqProofs only [go_sem, hd] | skip) | refine vzt ?_ | refine vzf ?_ | refine vsb ?_ | refine vzb ?_ | refine vzq ?_ | simp -implicitDefEqProofs only [go_sem, q1, q2, q3, q4, q5, q6, hLb, hLe, zb, ze, ba_list, e2, kA, cA, iA', kB, cB, iB, kE, cE, iE]); exact ret_bool (by simp))
     | true => ((repeat' first | ((first | refine vy1 ?_ ?_ | refine vy2 ?_ ?_ | refine vy3 ?_ ?_) <;> rintro ⟨hd, hq⟩ <;> first | (exfalso; omega) | simp -implicitDefEqProofs only [go_sem, hd] | skip) | refine vzt ?_ | refine vzf ?_ | refine vsb ?_ | refine vzb ?_ | refine vzq ?_ | simp -implicitDefEqProofs only [go_sem, q1, q2, q3, q4, q5, q6, hLb, hLe, zb, ze, ba_list, e2, kA, cA, iA', kB, cB, iB, kE, cE, iE]); exact ret_bool (by simp))
   | true =>
    cases le with
    | false =>
     (repeat' first | ((first | refine vy1 ?_ ?_ | refine vy2 ?_ ?_ | refine vy3 ?_ ?_) <;> rintro ⟨hd, hq⟩ <;> first | (exfalso; omega) | simp -implicitDefEqProofs only [go_sem, hd] | skip) | refine vzt ?_ | refine vzf ?_ | refine vsb ?_ | refine vzb ?_ | refine vzq ?_ | simp -implicitDefEqProofs only [go_sem, q1, q2, q3, q4, q5, q6, hLb, hLe, zb, ze, ba_list, e2, kA, cA, iA', kB, cB, iB, kE, cE, iE])
     refine (hFb _).use ?_
     cases formedSs nameB body with
     | false => ((repeat' first | ((first | refine vy1 ?_ ?_ | refine vy2 ?_ ?_ | refine vy3 ?_ ?_) <;> rintro ⟨hd, hq⟩ <;> first | (exfalso; omega) | simp -implicitDefEqProofs only [go_sem, hd] | skip) | refine vzt ?_ | refine vzf ?_ | refine vsb ?_ | refine vzb ?_ | refine vzq ?_ | simp -implicitDefEqProofs only [go_sem, q1, q2, q3, q4, q5, q6, hLb, hLe, zb, ze, ba_list, e2, kA, cA, iA', kB, cB, iB, kE, cE, iE]); exact ret_bool (by simp))
     | true =>
     (repeat' first | ((first | refine vy1 ?_ ?_ | refine vy2 ?_ ?_ | refine vy3 ?_ ?_) <;> rintro ⟨hd, hq⟩ <;> first | (exfalso; omega) | simp -implicitDefEqProofs only [go_sem, hd] | skip) | refine vzt ?_ | refine vzf ?_ | refine vsb ?_ | refine vzb ?_ | refine vzq ?_ | simp -implicitDefEqProofs only [go_sem, q1, q2, q3, q4, q5, q6, hLb, hLe, zb, ze, ba_list, e2, kA, cA, iA', kB, cB, iB, kE, cE, iE])
     refine (hFe _).use ?_
     cases formedSs nameB els with
     | false => ((repeat' first | ((first | refine vy1 ?_ ?_ | refine vy2 ?_ ?_ | refine vy3 ?_ ?_) <;> rintro ⟨hd, hq⟩ <;> first | (exfalso; omega) | simp -implicitDefEqProofs only [go_sem, hd] | skip) | refine vzt ?_ | refine vzf ?_ | refine vsb ?_ | refine vzb ?_ | refine vzq ?_ | simp -implicitDefEqProofs only [go_sem, q1, q2, q3, q4, q5, q6, hLb, hLe, zb, ze, ba_list, e2, kA, cA, iA', kB, cB, iB, kE, cE, iE]); exact ret_bool (by simp))
     | true => ((repeat' first | ((first | refine vy1 ?_ ?_ | refine vy2 ?_ ?_ | refine vy3 ?_ ?_) <;> rintro ⟨hd, hq⟩ <;> first | (exfalso; omega) | simp -implicitDefEqProofs only [go_sem, hd] | skip) | refine vzt ?_ | refine vzf ?_ | refine vsb ?_ | refine vzb ?_ | refine vzq ?_ | simp -implicitDefEqProofs only [go_sem, q1, q2, q3, q4, q5, q6, hLb, hLe, zb, ze, ba_list, e2, kA, cA, iA', kB, cB, iB, kE, cE, iE]); exact ret_bool (by simp))
    | true =>
     (repeat' first | ((first | refine vy1 ?_ ?_ | refine vy2 ?_ ?_ | refine vy3 ?_ ?_) <;> rintro ⟨hd, hq⟩ <;> first | (exfalso; omega) | simp -implicitDefEqProofs only [go_sem, hd] | skip) | refine vzt ?_ | refine vzf ?_ | refine vsb ?_ | refine vzb ?_ | refine vzq ?_ | simp -implicitDefEqProofs only [go_sem, q1, q2, q3, q4, q5, q6, hLb, hLe, zb, ze, ba_list, e2, kA, cA, iA', kB, cB, iB, kE, cE, iE])
     refine (hFb _).use ?_
     cases formedSs nameB body with
     | false => ((repeat' first | ((first | refine vy1 ?_ ?_ | refine vy2 ?_ ?_ | refine vy3 ?_ ?_) <;> rintro ⟨hd, hq⟩ <;> first | (exfalso; omega) | simp -implicitDefEqProofs only [go_sem, hd] | skip) | refine vzt ?_ | refine vzf ?_ | refine vsb ?_ | refine vzb ?_ | refine vzq ?_ | simp -implicitDefEqProofs only [go_sem, q1, q2, q3, q4, q5, q6, hLb, hLe, zb, ze, ba_list, e2, kA, cA, iA', kB, cB, iB, kE, cE, iE]); exact ret_bool (by simp))
     | true =>
     (repeat' first | ((first | refine vy1 ?_ ?_ | refine vy2 ?_ ?_ | refine vy3 ?_ ?_) <;> rintro ⟨hd, hq⟩ <;> first | (exfalso; omega) | simp -implicitDefEqProofs only [go_sem, hd] | skip) | refine vzt ?_ | refine vzf ?_ | refine vsb ?_ | refine vzb ?_ | refine vzq ?_ | simp -implicitDefEqProofs only [go_sem, q1, q2, q3, q4, q5, q6, hLb, hLe, zb, ze, ba_list, e2, kA, cA, iA', kB, cB, iB, kE, cE, iE])
     refine (hFe _).use ?_
     cases formedSs nameB els with
     | false => ((repeat' first | ((first | refine vy1 ?_ ?_ | refine vy2 ?_ ?_ | refine vy3 ?_ ?_) <;> rintro ⟨hd, hq⟩ <;> first | (exfalso; omega) | simp -implicitDefEqProofs only [go_sem, hd] | skip) | refine vzt ?_ | refine vzf ?_ | refine vsb ?_ | refine vzb ?_ | refine vzq ?_ | simp -implicitDefEqProofs only [go_sem, q1, q2, q3, q4, q5, q6, hLb, hLe, zb, ze, ba_list, e2, kA, cA, iA', kB, cB, iB, kE, cE, iE]); exact ret_bool (by simp))
     | true => ((repeat' first | ((first | refine vy1 ?_ ?_ | refine vy2 ?_ ?_ | refine vy3 ?_ ?_) <;> rintro ⟨hd, hq⟩ <;> first | (exfalso; omega) | simp -implicitDefEqProofs only [go_sem, hd] | skip) | refine vzt ?_ | refine vzf ?_ | refine vsb ?_ | refine vzb ?_ | refine vzq ?_ | simp -implicitDefEqProofs only [go_sem, q1, q2, q3, q4, q5, q6, hLb, hLe, zb, ze, ba_list, e2, kA, cA, iA', kB, cB, iB, kE, cE, iE]); exact ret_bool (by simp))
  by_cases k4 : k = 4
  ·subst k4
   rw [if_neg (by omega)]
   have q1 : decide ((4 : Int) = 1) = false := by decide
   have q2 : decide ((4 : Int) = 2) = false := by decide
   have q3 : decide ((4 : Int) = 3) = false := by decide
   have q4 : decide ((4 : Int) = 4) = true := by decide
   have q5 : decide ((1 : Int) ≤ 4) = true := by decide
   have q6 : decide ((4 : Int) ≤ 5) = true := by decide
   generalize decide (nm.size = 0) = nb at *
   simp -implicitDefEqProofs only [go_sem, q1, q2, q3, q4, q5, q6, hLb, hLe, zb, ze, ba_list, e2, kA, cA, iA', kB, cB, iB, kE, cE, iE]
   refine vzf ?_
   cases nb with
   | false => ((repeat' first | ((first | refine vy1 ?_ ?_ | refine vy2 ?_ ?_ | refine vy3 ?_ ?_) <;> rintro ⟨hd, hq⟩ <;> first | (exfalso; omega) | simp -implicitDefEqProofs only [go_sem, hd] | skip) | refine vzt ?_ | refine vzf ?_ | refine vsb ?_ | refine vzb ?_ | refine vzq ?_ | simp -implicitDefEqProofs only [go_sem, q1, q2, q3, q4, q5, q6, hLb, hLe, zb, ze, ba_list, e2, kA, cA, iA', kB, cB, iB, kE, cE, iE]); exact ret_bool (by simp))
   | true =>
   (repeat' first | ((first | refine vy1 ?_ ?_ | refine vy2 ?_ ?_ | refine vy3 ?_ ?_) <;> rintro ⟨hd, hq⟩ <;> first | (exfalso; omega) | simp -implicitDefEqProofs only [go_sem, hd] | skip) | refine vzt ?_ | refine vzf ?_ | refine vsb ?_ | refine vzb ?_ | refine vzq ?_ | simp -implicitDefEqProofs only [go_sem, q1, q2, q3, q4, q5, q6, hLb, hLe, zb, ze, ba_list, e2, kA, cA, iA', kB, cB, iB, kE, cE, iE])
   refine (hFv _).use ?_
   cases formedB nameB v with
   | false => ((repeat' first | ((first | refine vy1 ?_ ?_ | refine vy2 ?_ ?_ | refine vy3 ?_ ?_) <;> rintro ⟨hd, hq⟩ <;> first | (exfalso; omega) | simp -implicitDefEqProofs only [go_sem, hd] | skip) | refine vzt ?_ | refine vzf ?_ | refine vsb ?_ | refine vzb ?_ | refine vzq ?_ | simp -implicitDefEqProofs only [go_sem, q1, q2, q3, q4, q5, q6, hLb, hLe, zb, ze, ba_list, e2, kA, cA, iA', kB, cB, iB, kE, cE, iE]); exact ret_bool (by simp))
   | true =>
   cases lb with
   | false =>
    cases le with
    | false => ((repeat' first | ((first | refine vy1 ?_ ?_ | refine vy2 ?_ ?_ | refine vy3 ?_ ?_) <;> rintro ⟨hd, hq⟩ <;> first | (exfalso; omega) | simp -implicitDefEqProofs only [go_sem, hd] | skip) | refine vzt ?_ | refine vzf ?_ | refine vsb ?_ | refine vzb ?_ | refine vzq ?_ | simp -implicitDefEqProofs only [go_sem, q1, q2, q3, q4, q5, q6, hLb, hLe, zb, ze, ba_list, e2, kA, cA, iA', kB, cB, iB, kE, cE, iE]); exact ret_bool (by simp))
    | true =>
    (repeat' first | ((first | refine vy1 ?_ ?_ | refine vy2 ?_ ?_ | refine vy3 ?_ ?_) <;> rintro ⟨hd, hq⟩ <;> first | (exfalso; omega) | simp -implicitDefEqProofs only [go_sem, hd] | skip) | refine vzt ?_ | refine vzf ?_ | refine vsb ?_ | refine vzb ?_ | refine vzq ?_ | simp -implicitDefEqProofs only [go_sem, q1, q2, q3, q4, q5, q6, hLb, hLe, zb, ze, ba_list, e2, kA, cA, iA', kB, cB, iB, kE, cE, iE])
    refine (hFb _).use ?_
    cases formedSs nameB body with
    | false => ((repeat' first | ((first | refine vy1 ?_ ?_ | refine vy2 ?_ ?_ | refine vy3 ?_ ?_) <;> rintro ⟨hd, hq⟩ <;> first | (exfalso; omega) | simp -implicitDefEqProofs only [go_sem, hd] | skip) | refine vzt ?_ | refine vzf ?_ | refine vsb ?_ | refine vzb ?_ | refine vzq ?_ | simp -implicitDefEqProofs only [go_sem, q1, q2, q3, q4, q5, q6, hLb, hLe, zb, ze, ba_list, e2, kA, cA, iA', kB, cB, iB, kE, cE, iE]); exact ret_bool (by simp))
    | true =>
    (repeat' first | ((first | refine vy1 ?_ ?_ | refine vy2 ?_ ?_ | refine vy3 ?_ ?_) <;> rintro ⟨hd, hq⟩ <;> first | (exfalso; omega) | simp -implicitDefEqProofs only [go_sem, hd] | skip) | refine vzt ?_ | refine vzf ?_ | refine vsb ?_ | refine vzb ?_ | refine vzq ?_ | simp -implicitDefEqProofs only [go_sem, q1, q2, q3, q4, q5, q6, hLb, hLe, zb, ze, ba_list, e2, kA, cA, iA', kB, cB, iB, kE, cE, iE])
    refine (hFe _).use ?_
    cases formedSs nameB els with
    | false => ((repeat' first | ((first | refine vy1 ?_ ?_ | refine vy2 ?_ ?_ | refine vy3 ?_ ?_) <;> rintro ⟨hd, hq⟩ <;> first | (exfalso; omega) | simp -implicitDefEqProofs only [go_sem, hd] | skip) | refine vzt ?_ | refine vzf ?_ | refine vsb ?_ | refine vzb ?_ | refine vzq ?_ | simp -implicitDefEqProofs only [go_sem, q1, q2, q3, q4, q5, q6, hLb, hLe, zb, ze, ba_list, e2, kA, cA, iA', kB, cB, iB, kE, cE, iE]); exact ret_bool (by simp))
    | true => ((repeat' first | ((first | refine vy1 ?_ ?_ | refine vy2 ?_ ?_ | refine vy3 ?_ ?_) <;> rintro ⟨hd, hq⟩ <;> first | (exfalso; omega) | simp -implicitDefEqProofs only [go_sem, hd] | skip) | refine vzt ?_ | refine vzf ?_ | refine vsb ?_ | refine vzb ?_ | refine vzq ?_ | simp -implicitDefEqProofs only [go_sem, q1, q2, q3, q4, q5, q6, hLb, hLe, zb, ze, ba_list, e2, kA, cA, iA', kB, cB, iB, kE, cE, iE]); exact ret_bool (by simp))
   | true =>
    cases le with
    | false => ((repeat' first | ((first | refine vy1 ?_ ?_ | refine vy2 ?_ ?_ | refine vy3 ?_ ?_) <;> rintro ⟨hd, hq⟩ <;> first | (exfalso; omega) | simp -implicitDefEqProofs only [go_sem, hd] | skip) | refine vzt ?_ | refine vzf ?_ | refine vsb ?_ | refine vzb ?_ | refine vzq ?_ | simp -implicitDefEqProofs only [go_sem, q1, q2, q3, q4, q5, q6, hLb, hLe, zb, ze, ba_list, e2, kA, cA, iA', kB, cB, iB, kE, cE, iE]); exact ret_bool (by simp))
    | true =>
    (repeat' first | ((first | refine vy1 ?_ ?_ | refine vy2 ?_ ?_ | refine vy3 ?_ ?_) <;> rintro ⟨hd, hq⟩ <;> first | (exfalso; omega) | simp -implicitDefEqProofs only [go_sem, hd] | skip) | refine vzt ?_ | refine vzf ?_ | refine vsb ?_ | refine vzb ?_ | refine vzq ?_ | simp -implicitDefEqProofs only [go_sem, q1, q2, q3, q4, q5, q6, hLb, hLe, zb, ze, ba_list, e2, kA, cA, iA', kB, cB, iB, kE, cE, iE])
    refine (hFb _).use ?_
    cases formedSs nameB body with
    | false => ((repeat' first | ((first | refine vy1 ?_ ?_ | refine vy2 ?_ ?_ | refine vy3 ?_ ?_) <;> rintro ⟨hd, hq⟩ <;> first | (exfalso; omega) | simp -implicitDefEqProofs only [go_sem, hd] | skip) | refine vzt ?_ | refine vzf ?_ | refine vsb ?_ | refine vzb ?_ | refine vzq ?_ | simp -implicitDefEqProofs only [go_sem, q1, q2, q3, q4, q5, q6, hLb, hLe, zb, ze, ba_list, e2, kA, cA, iA', kB, cB, iB, kE, cE, iE]); exact ret_bool (by simp))
    | true =>
    (repeat' first | ((first | refine vy1 ?_ ?_ | refine vy2 ?_ ?_ | refine vy3 ?_ ?_) <;> rintro ⟨hd, hq⟩ <;> first | (exfalso; omega) | simp -implicitDefEqProofs only [go_sem, hd] | skip) | refine vzt ?_ | refine vzf ?_ | refine vsb ?_ | refine vzb ?_ | refine vzq ?_ | simp -implicitDefEqProofs only [go_sem, q1, q2, q3, q4, q5, q6, hLb, hLe, zb, ze, ba_list, e2, kA, cA, iA', kB, cB, iB, kE, cE, iE])
    refine (hFe _).use ?_
    cases formedSs nameB els with
    | false => ((repeat' first | ((first | refine vy1 ?_ ?_ | refine vy2 ?_ ?_ | refine vy3 ?_ ?_) <;> rintro ⟨hd, hq⟩ <;> first | (exfalso; omega) | simp -implicitDefEqProofs only [go_sem, hd] | skip) | refine vzt ?_ | refine vzf ?_ | refine vsb ?_ | refine vzb ?_ | refine vzq ?_ | simp -implicitDefEqProofs only [go_sem, q1, q2, q3, q4, q5, q6, hLb, hLe, zb, ze, ba_list, e2, kA, cA, iA', kB, cB, iB, kE, cE, iE]); exact ret_bool (by simp))
    | true => ((repeat' first | ((first | refine vy1 ?_ ?_ | refine vy2 ?_ ?_ | refine vy3 ?_ ?_) <;> rintro ⟨hd, hq⟩ <;> first | (exfalso; omega) | simp -implicitDefEqProofs only [go_sem, hd] | skip) | refine vzt ?_ | refine vzf ?_ | refine vsb ?_ | refine vzb ?_ | refine vzq ?_ | simp -implicitDefEqProofs only [go_sem, q1, q2, q3, q4, q5, q6, hLb, hLe, zb, ze, ba_list, e2, kA, cA, iA', kB, cB, iB, kE, cE, iE]); exact ret_bool (by simp))
  ·obtain rfl : k = 5 := by omega
   rw [if_neg (by omega)]
   have q1 : decide ((5 : Int) = 1) = false := by decide
   have q2 : decide ((5 : Int) = 2) = false := by decide
   have q3 : decide ((5 : Int) = 3) = false := by decide
   have q4 : decide ((5 : Int) = 4) = false := by decide
   have q5 : decide ((1 : Int) ≤ 5) = true := by decide
   have q6 : decide ((5 : Int) ≤ 5) = true := by decide
   generalize decide (nm.size = 0) = nb at *
   simp -implicitDefEqProofs only [go_sem, q1, q2, q3, q4, q5, q6, hLb, hLe, zb, ze, ba_list, e2, kA, cA, iA', kB, cB, iB, kE, cE, iE]
   refine vzf ?_
   cases nb with
   | false => ((repeat' first | ((first | refine vy1 ?_ ?_ | refine vy2 ?_ ?_ | refine vy3 ?_ ?_) <;> rintro ⟨hd, hq⟩ <;> first | (exfalso; omega) | simp -implicitDefEqProofs only [go_sem, hd] | skip) | refine vzt ?_ | refine vzf ?_ | refine vsb ?_ | refine vzb ?_ | refine vzq ?_ | simp -implicitDefEqProofs only [go_sem, q1, q2, q3, q4, q5, q6, hLb, hLe, zb, ze, ba_list, e2, kA, cA, iA', kB, cB, iB, kE, cE, iE]); exact ret_bool (by simp))
   | true =>
   (repeat' first | ((first | refine vy1 ?_ ?_ | refine vy2 ?_ ?_ | refine vy3 ?_ ?_) <;> rintro ⟨hd, hq⟩ <;> first | (exfalso; omega) | simp -implicitDefEqProofs only [go_sem, hd] | skip) | refine vzt ?_ | refine vzf ?_ | refine vsb ?_ | refine vzb ?_ | refine vzq ?_ | simp -implicitDefEqProofs only [go_sem, q1, q2, q3, q4, q5, q6, hLb, hLe, zb, ze, ba_list, e2, kA, cA, iA', kB, cB, iB, kE, cE, iE])
   refine (hFv _).use ?_
   cases formedB nameB v with
   | false => ((repeat' first | ((first | refine vy1 ?_ ?_ | refine vy2 ?_ ?_ | refine vy3 ?_ ?_) <;> rintro ⟨hd, hq⟩ <;> first | (exfalso; omega) | simp -implicitDefEqProofs only [go_sem, hd] | skip) | refine vzt ?_ | refine vzf ?_ | refine vsb ?_ | refine vzb ?_ | refine vzq ?_ | simp -implicitDefEqProofs only [go_sem, q1, q2, q3, q4, q5, q6, hLb, hLe, zb, ze, ba_list, e2, kA, cA, iA', kB, cB, iB, kE, cE, iE]); exact ret_bool (by simp))
   | true =>
   cases lb with
   | false => ((repeat' first | ((first | refine vy1 ?_ ?_ | refine vy2 ?_ ?_ | refine vy3 ?_ ?_) <;> rintro ⟨hd, hq⟩ <;> first | (exfalso; omega) | simp -implicitDefEqProofs only [go_sem, hd] | skip) | refine vzt ?_ | refine vzf ?_ | refine vsb ?_ | refine vzb ?_ | refine vzq ?_ | simp -implicitDefEqProofs only [go_sem, q1, q2, q3, q4, q5, q6, hLb, hLe, zb, ze, ba_list, e2, kA, cA, iA', kB, cB, iB, kE, cE, iE]); exact ret_bool (by simp))
   | true =>
   cases le with
   | false => ((repeat' first | ((first | refine vy1 ?_ ?_ | refine vy2 ?_ ?_ | refine vy3 ?_ ?_) <;> rintro ⟨hd, hq⟩ <;> first | (exfalso; omega) | simp -implicitDefEqProofs only [go_sem, hd] | skip) | refine vzt ?_ | refine vzf ?_ | refine vsb ?_ | refine vzb ?_ | refine vzq ?_ | simp -implicitDefEqProofs only [go_sem, q1, q2, q3, q4, q5, q6, hLb, hLe, zb, ze, ba_list, e2, kA, cA, iA', kB, cB, iB, kE, cE, iE]); exact ret_bool (by simp))
   | true =>
   (repeat' first | ((first | refine vy1 ?_ ?_ | refine vy2 ?_ ?_ | refine vy3 ?_ ?_) <;> rintro ⟨hd, hq⟩ <;> first | (exfalso; omega) | simp -implicitDefEqProofs only [go_sem, hd] | skip) | refine vzt ?_ | refine vzf ?_ | refine vsb ?_ | refine vzb ?_ | refine vzq ?_ | simp -implicitDefEqProofs only [go_sem, q1, q2, q3, q4, q5, q6, hLb, hLe, zb, ze, ba_list, e2, kA, cA, iA', kB, cB, iB, kE, cE, iE])
   refine (hFb _).use ?_
   cases formedSs nameB body with
   | false => ((repeat' first | ((first | refine vy1 ?_ ?_ | refine vy2 ?_ ?_ | refine vy3 ?_ ?_) <;> rintro ⟨hd, hq⟩ <;> first | (exfalso; omega) | simp -implicitDefEqProofs only [go_sem, hd] | skip) | refine vzt ?_ | refine vzf ?_ | refine vsb ?_ | refine vzb ?_ | refine vzq ?_ | simp -implicitDefEqProofs only [go_sem, q1, q2, q3, q4, q5, q6, hLb, hLe, zb, ze, ba_list, e2, kA, cA, iA', kB, cB, iB, kE, cE, iE]); exact ret_bool (by simp))
   | true =>
   (repeat' first | ((first | refine vy1 ?_ ?_ | refine vy2 ?_ ?_ | refine vy3 ?_ ?_) <;> rintro ⟨hd, hq⟩ <;> first | (exfalso; omega) | simp -implicitDefEqProofs only [go_sem, hd] | skip) | refine vzt ?_ | refine vzf ?_ | refine vsb ?_ | refine vzb ?_ | refine vzq ?_ | simp -implicitDefEqProofs only [go_sem, q1, q2, q3, q4, q5, q6, hLb, hLe, zb, ze, ba_list, e2, kA, cA, iA', kB, cB, iB, kE, cE, iE])
   refine (hFe _).use ?_
   cases formedSs nameB els with
   | false => ((repeat' first | ((first | refine vy1 ?_ ?_ | refine vy2 ?_ ?_ | refine vy3 ?_ ?_) <;> rintro ⟨hd, hq⟩ <;> first | (exfalso; omega) | simp -implicitDefEqProofs only [go_sem, hd] | skip) | refine vzt ?_ | refine vzf ?_ | refine vsb ?_ | refine vzb ?_ | refine vzq ?_ | simp -implicitDefEqProofs only [go_sem, q1, q2, q3, q4, q5, q6, hLb, hLe, zb, ze, ba_list, e2, kA, cA, iA', kB, cB, iB, kE, cE, iE]); exact ret_bool (by simp))
   | true => ((repeat' first | ((first | refine vy1 ?_ ?_ | refine vy2 ?_ ?_ | refine vy3 ?_ ?_) <;> rintro ⟨hd, hq⟩ <;> first | (exfalso; omega) | simp -implicitDefEqProofs only [go_sem, hd] | skip) | refine vzt ?_ | refine vzf ?_ | refine vsb ?_ | refine vzb ?_ | refine vzq ?_ | simp -implicitDefEqProofs only [go_sem, q1, q2, q3, q4, q5, q6, hLb, hLe, zb, ze, ba_list, e2, kA, cA, iA', kB, cB, iB, kE, cE, iE]); exact ret_bool (by simp))
theorem formedSC : ∀ {x : St} {w : WD} {v : AVal}, IsSt x v → GivesV (EE w) 68 [v] (.sc (.bool (formedS nameB x)))
 | .mk _ _ _ _ _, _, _, h => formedSStep h fun y hy _ _ h' => formedSC (x := y) h'
termination_by x => sizeOf x
decreasing_by rcases hy with hy | hy <;> (have := List.sizeOf_lt_of_mem hy; simp only [St.mk.sizeOf_spec]; omega)
end Abs
end
