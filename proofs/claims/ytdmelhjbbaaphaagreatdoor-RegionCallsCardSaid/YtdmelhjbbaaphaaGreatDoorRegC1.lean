/-
  Functions of the program walked: each is shown to compute a plain function (RegC1).
-/
import Derived.Test.YtdmelhjbbaaphaaGreatDoorRegB2
import Derived.Test.YtdmelhjbbaaphaaGreatDoorRegA1
import Derived.Test.YtdmelhjbbaaphaaGreatDoorRegY
namespace Abs
set_option linter.unusedSimpArgs false
set_option linter.unusedVariables false
set_option maxRecDepth 100000
set_option maxHeartbeats 2000000
open Go Go.Proofs
def caseA (K W R CL : AVal) (x : Int × Int) (c : Int × Bool × Bool × Int) : AVal := .agg [K, W, R, CL, (AVal.sc (Value.int IntKind.i64 (x.1))), (AVal.sc (Value.int IntKind.i64 (x.2))), (AVal.sc (Value.int IntKind.i64 (c.1))), (AVal.sc (Value.bool (c.2.1))), (AVal.sc (Value.bool (c.2.2.1))), (AVal.sc (Value.int IntKind.i64 (c.2.2.2)))]
structure IsCase (K W R CL : AVal) (k l r : List Int) (cl : List (Int × Int)) (x : Int × Int) (c : Int × Bool × Bool × Int) : Prop where
 hk : IsD 1 K (k.map iA)
 hw : IsD 1 W (l.map iA)
 hr : IsD 1 R (r.map iA)
 hc : IsD 2 CL (cl.map rA)
 lk : k.length ≤ 9223372036854775807
 lw : l.length ≤ 9223372036854775807
 lr : r.length ≤ 9223372036854775807
 lc : cl.length ≤ 9223372036854775807
 ic : ∀ x ∈ cl, in64 x.1 ∧ in64 x.2
 ix : in64 x.1 ∧ in64 x.2
 icn : in64 c.1 ∧ in64 c.2.2.2
theorem IsCase.wf {K W R CL : AVal} {k l r : List Int} {cl : List (Int × Int)} {x : Int × Int} {c : Int × Bool × Bool × Int} (h : IsCase K W R CL k l r cl x c) : WF 0 (caseA K W R CL x c) :=
 .agg _ (.cons _ _ (h.hk.wf (wf_is k)) (.cons _ _ (h.hw.wf (wf_is l)) (.cons _ _ (h.hr.wf (wf_is r)) (.cons _ _ (h.hc.wf (map_rA_wf cl)) (.cons _ _ (.sc _) (.cons _ _ (.sc _) (.cons _ _ (.sc _) (.cons _ _ (.sc _) (.cons _ _ (.sc _) (.cons _ _ (.sc _) .nil))))))))))
def bigB (k l r : List Int) (cl : List (Int × Int)) : Bool := decide (40 < k.length) || (decide (40 < l.length) || (decide (40 < r.length) || decide (40 < cl.length)))
theorem largeC {w : World} {K W R CL : AVal} {k l r : List Int} {cl : List (Int × Int)} {x : Int × Int} {c : Int × Bool × Bool × Int} (h : IsCase K W R CL k l r cl x c) : GivesV (EE w) 5 [caseA K W R CL x c] (AVal.sc (Value.bool (bigB k l r cl))) := by
 refine GivesV.of (fun _ => .sc _) (.cons _ _ h.wf .nil) 4 ?_
 obtain ⟨hK, hW, hR, hC, lk, lw, lr, lc, _, _, _⟩ := h
 have kK := hK.fit
 have kW := hW.fit
 have kR := hR.fit
 have kC := hC.fit
 have cK := hK.cells
 have cW := hW.cells
 have cR := hR.cells
 have cC := hC.cells
 have iK := hK.isCell
 have iW := hW.isCell
 have iR := hR.isCell
 have iC := hC.isCell
 obtain ⟨c1, c2, c3, c4⟩ := c
 obtain ⟨x1, x2⟩ := x
 refine of_5 rfl rfl rfl (by kernel_rfl) ?_
 simp (maxSteps := 500000) -implicitDefEqProofs only [go_sem, caseA, kK, kW, kR, kC, cK, cW, cR, cC, iK, iW, iR, iC]
 by_cases a1 : 40 < k.length
 ·have a1' : (40 : Int) < k.length := by omega
  (repeat' first | ((first | refine vy1 ?_ ?_ | refine vy2 ?_ ?_ | refine vy3 ?_ ?_) <;> rintro ⟨hd, hq⟩ <;> first | (exfalso; omega) | simp (maxSteps := 500000) -implicitDefEqProofs only [go_sem, hd, hK.len, dct a1'] | skip) | refine vzt ?_ | refine vzf ?_ | refine vsb ?_ | refine vzb ?_ | refine vzq ?_ | simp (maxSteps := 500000) -implicitDefEqProofs only [go_sem, hK.len, dct a1'])
  exact ⟨_, rfl, by simp only [bigB, dct a1, Bool.true_or]; rfl⟩
 have a1' : ¬ (40 : Int) < k.length := by omega
 by_cases a2 : 40 < l.length
 ·have a2' : (40 : Int) < l.length := by omega
  (repeat' first | ((first | refine vy1 ?_ ?_ | refine vy2 ?_ ?_ | refine vy3 ?_ ?_) <;> rintro ⟨hd, hq⟩ <;> first | (exfalso; omega) | simp (maxSteps := 500000) -implicitDefEqProofs only [go_sem, hd, hK.len, hW.len, dcf a1', dct a2'] | skip) | refine vzt ?_ | refine vzf ?_ | refine vsb ?_ | refine vzb ?_ | refine vzq ?_ | simp (maxSteps := 500000) -implicitDefEqProofs only [go_sem, hK.len, hW.len, dcf a1', dct a2'])
  exact ⟨_, rfl, by simp only [bigB, dct a2, Bool.true_or, Bool.or_true]; rfl⟩
 have a2' : ¬ (40 : Int) < l.length := by omega
 by_cases a3 : 40 < r.length
 ·have a3' : (40 : Int) < r.length := by omega
  (repeat' first | ((first | refine vy1 ?_ ?_ | refine vy2 ?_ ?_ | refine vy3 ?_ ?_) <;> rintro ⟨hd, hq⟩ <;> first | (exfalso; omega) | simp (maxSteps := 500000) -implicitDefEqProofs only [go_sem, hd, hK.len, hW.len, hR.len, dcf a1', dcf a2', dct a3'] | skip) | refine vzt ?_ | refine vzf ?_ | refine vsb ?_ | refine vzb ?_ | refine vzq ?_ | simp (maxSteps := 500000) -implicitDefEqProofs only [go_sem, hK.len, hW.len, hR.len, dcf a1', dcf a2', dct a3'])
  exact ⟨_, rfl, by simp only [bigB, dct a3, Bool.true_or, Bool.or_true]; rfl⟩
 have a3' : ¬ (40 : Int) < r.length := by omega
 by_cases a4 : 40 < cl.length
 ·have a4' : (40 : Int) < cl.length := by omega
  (repeat' first | ((first | refine vy1 ?_ ?_ | refine vy2 ?_ ?_ | refine vy3 ?_ ?_) <;> rintro ⟨hd, hq⟩ <;> first | (exfalso; omega) | simp (maxSteps := 500000) -implicitDefEqProofs only [go_sem, hd, hK.len, hW.len, hR.len, hC.len, dcf a1', dcf a2', dcf a3', dct a4'] | skip) | refine vzt ?_ | refine vzf ?_ | refine vsb ?_ | refine vzb ?_ | refine vzq ?_ | simp (maxSteps := 500000) -implicitDefEqProofs only [go_sem, hK.len, hW.len, hR.len, hC.len, dcf a1', dcf a2', dcf a3', dct a4'])
  exact ⟨_, rfl, by simp only [bigB, dct a4, Bool.or_true]; rfl⟩
 have a4' : ¬ (40 : Int) < cl.length := by omega
 (repeat' first | ((first | refine vy1 ?_ ?_ | refine vy2 ?_ ?_ | refine vy3 ?_ ?_) <;> rintro ⟨hd, hq⟩ <;> first | (exfalso; omega) | simp (maxSteps := 500000) -implicitDefEqProofs only [go_sem, hd, hK.len, hW.len, hR.len, hC.len, dcf a1', dcf a2', dcf a3', dcf a4'] | skip) | refine vzt ?_ | refine vzf ?_ | refine vsb ?_ | refine vzb ?_ | refine vzq ?_ | simp (maxSteps := 500000) -implicitDefEqProofs only [go_sem, hK.len, hW.len, hR.len, hC.len, dcf a1', dcf a2', dcf a3', dcf a4'])
 exact ⟨_, rfl, by simp only [bigB, dcf a1, dcf a2, dcf a3, dcf a4, Bool.or_false]; rfl⟩
theorem same_dec {α : Type} [DecidableEq α] (x : α) : decide (x = x) = true := dct rfl
theorem of_len {k : List Int} {cl : List (Int × Int)} : (ofP k cl).1.1.length ≤ k.length ∧ (ofP k cl).1.2.length ≤ k.length := by
 unfold ofP
 split <;> simp
theorem lat_len {k l r : List Int} : (latP k l r).1.1.length ≤ l.length ∧ (latP k l r).1.2.length ≤ r.length := by
 unfold latP
 split
 ·exact ⟨by rw [lats_len]; exact Nat.le_refl _, by rw [lats_len]; exact Nat.le_refl _⟩
 ·simp
theorem rst_len {k l r : List Int} {x : Int × Int} : (rstP k l r x).1.1.length ≤ l.length ∧ (rstP k l r x).1.2.length ≤ r.length := by
 unfold rstP
 split
 ·refine ⟨by simp [rsL], ?_⟩
  unfold rsR
  split <;> simp
 ·simp
/-- A list of numbers that no one else holds. -/
def Fzd (σ : AStore) (q : Nat) (v : AVal) (l : List Int) : Prop := IsD 1 v (l.map iA) ∨ ∃ b, b ≠ 0 ∧ b ≠ q ∧ v = .slice b 0 l.length ∧ σ.get b = some (.cells 1 (l.map iA))
theorem self1 {b : Nat} {l : List Int} : repl b 1 (l.map iA) (.slice b 0 l.length) = .data 1 false (l.map iA) := by
 rw [show l.length = (l.map iA).length by simp]; exact repl_self
/-- A piece that is walked once; a rule is chosen behind it. -/
theorem Z_cutZ {E : Env} {n : Nat} {ι : Type} {x y : Code} {Q : SPred} (S : ι → Ev) (I : ι → AStore → Prop) (okS : ∀ i, okT (S i) = true) {e : Ev} {σ : AStore}
  (h1 : V E n x (after S I Q) e σ) (h2 : ∀ i σ, I i σ → Z E n y Q (S i) σ) : Z E n (.seq x y) Q e σ := by
 intro hc he
 simp only [okC, Bool.and_eq_true] at hc
 refine AWp.seq ((V_sound x h1 hc.1 he).mono ?_)
 rintro ex a σ ⟨e, h3, h4, h5⟩
 cases ex with
 | normal =>
  obtain ⟨j, hj, hl⟩ := h5
  have := Z_less (h2 j σ hj) (okS j) hl
  exact SWp.of h3 h4 (this hc.2)
 | _ => exact ⟨e, h3, h4, h5⟩
set_option maxHeartbeats 8000000 in
theorem law3 {w : World} {K W R CL : AVal} {k l r : List Int} {cl : List (Int × Int)} {x : Int × Int} {c : Int × Bool × Bool × Int} (h : IsCase K W R CL k l r cl x c) (haw : Gives (EE w) 6 [] fun v => v = (AVal.sc (Value.bool (true)))) :
  ACalls (EE w) 3 [caseA K W R CL x c] empty fun e _ => e = .ret (AVal.sc (Value.bool (true))) := by
 have lC := largeC (w := w) h
 obtain ⟨hK, hW, hR, hC, lk, lw, lr, lc, ic, ix, icn⟩ := h
 have kK := hK.fit
 have kW := hW.fit
 have kR := hR.fit
 have kC := hC.fit
 have cK := hK.cells
 have cW := hW.cells
 have cR := hR.cells
 have cC := hC.cells
 have iK := hK.isCell
 have iW := hW.isCell
 have iR := hR.isCell
 have iC := hC.isCell
 have sW := fun σ : AStore => hW.src (σ := σ)
 have sR := fun σ : AStore => hR.src (σ := σ)
 obtain ⟨c1, c2, c3, c4⟩ := c
 obtain ⟨x1, x2⟩ := x
 simp only [caseA] at lC
 refine of_3 rfl rfl rfl (by kernel_rfl) ?_
 simp (maxSteps := 500000) -implicitDefEqProofs only [go_sem, caseA, kK, kW, kR, kC, cK, cW, cR, cC, iK, iW, iR, iC]
 refine lC.use ?_
 cases hb : bigB k l r cl with
 | true =>
  (repeat' first | ((first | refine vy1 ?_ ?_ | refine vy2 ?_ ?_ | refine vy3 ?_ ?_) <;> rintro ⟨hd, hq⟩ <;> first | (exfalso; omega) | simp (maxSteps := 500000) -implicitDefEqProofs only [go_sem, hd] | skip) | refine vzt ?_ | refine vzf ?_ | refine vsb ?_ | refine vzb ?_ | refine vzq ?_ | simp (maxSteps := 500000) -implicitDefEqProofs only [go_sem])
  refine haw.use ?_
  rintro v rfl
  (repeat' first | ((first | refine vy1 ?_ ?_ | refine vy2 ?_ ?_ | refine vy3 ?_ ?_) <;> rintro ⟨hd, hq⟩ <;> first | (exfalso; omega) | simp (maxSteps := 500000) -implicitDefEqProofs only [go_sem, hd] | skip) | refine vzt ?_ | refine vzf ?_ | refine vsb ?_ | refine vzb ?_ | refine vzq ?_ | simp (maxSteps := 500000) -implicitDefEqProofs only [go_sem])
 | false =>
 simp only [bigB, Bool.or_eq_false_iff, decide_eq_false_iff_not, Nat.not_lt] at hb
 obtain ⟨b1, b2, b3, b4⟩ := hb
 (repeat' (first | refine vzf ?_ | simp (maxSteps := 500000) -implicitDefEqProofs only [go_sem]))
 obtain ⟨C, hCe⟩ : ∃ C : AVal, C = .agg [K, W, R, CL, (AVal.sc (Value.int IntKind.i64 (x1))), (AVal.sc (Value.int IntKind.i64 (x2))), (AVal.sc (Value.int IntKind.i64 (c1))), (AVal.sc (Value.bool (c2))), (AVal.sc (Value.bool (c3))), (AVal.sc (Value.int IntKind.i64 (c4)))] := ⟨_, rfl⟩
 refine Z_cutZ (ι := Nat × AVal × AVal) (fun s => [(1, .ptr 0 0 0), (2, (AVal.sc (Value.bool (false)))), (3, .ptr s.1 0 0)])
  (fun s σ => σ.get 0 = some (.cells 10 [C]) ∧ σ.get s.1 = some (.cells 2 [.agg [s.2.1, s.2.2]]) ∧ s.1 ≠ 0 ∧ Fzd σ s.1 s.2.1 l ∧ Fzd σ s.1 s.2.2 r ∧ Apart s.2.1 s.2.2) (fun _ => rfl) ?_ ?_
 ·have A1 : l ≠ [] → ∀ (σ : AStore), aAppend 1 8 (.data 1 true []) (l.map iA) σ = some (.slice σ.next 0 (l.map iA).length, σ.alloc (.cells 1 (l.map iA))) := fun h σ => app_data (by simpa using h) (by simp; omega) (by decide)
  have A2 : r ≠ [] → ∀ (σ : AStore), aAppend 1 8 (.data 1 true []) (r.map iA) σ = some (.slice σ.next 0 (r.map iA).length, σ.alloc (.cells 1 (r.map iA))) := fun h σ => app_data (by simpa using h) (by simp; omega) (by decide)
  by_cases l0 : l = []
  ·subst l0
   simp only [List.map_nil] at sW
   by_cases r0 : r = []
   ·subst r0
    simp only [List.map_nil] at sR
    simp (maxSteps := 500000) -implicitDefEqProofs only [go_sem]
    ((try (refine Z_seq ?_; (try simp (maxSteps := 500000) -implicitDefEqProofs only [go_sem]))); refine Z_drawT (by kernel_rfl) [0, 1, 2, 3, 5, 6, 7, 8, 4, 9, 10, 11, 12] [(12, 4095), (11, 0), (10, 1023), (9, 511), (4, 15), (8, 192), (7, 64), (6, 0), (5, 0), (3, 6), (2, 2), (1, 0), (0, 0)] (.one 0 (.one 1 (.one 2 (.one 3 (.one 5 (.one 6 (.one 7 (.one 8 (.two 4 (.two 9 (.one 10 (.one 11 (.one 12 .fin))) 11 (.one 9 (.one 10 (.one 12 .fin)))) 11 (.one 4 (.one 9 (.one 10 (.one 12 .fin))))))))))))) (by kernel_rfl) (by kernel_rfl) (by kernel_rfl) ?_)
    simp (maxSteps := 500000) -implicitDefEqProofs only [go_sem, sW, sR, app_ee, List.length_map, kK, kW, kR, kC, cK, cW, cR, cC, iK, iW, iR, iC]
    (repeat rw [after_normal])
    refine ⟨⟨?_, ?_⟩, ?_⟩
    ·exact ⟨(1, .data 1 true [], .data 1 true []), ⟨by simp (maxSteps := 500000) -implicitDefEqProofs only [go_sem, hCe], by simp (maxSteps := 500000) -implicitDefEqProofs only [go_sem], by (try dsimp only); omega, (.inl (.inr ⟨true, rfl⟩)), (.inl (.inr ⟨true, rfl⟩)), (fun b l l' h => by cases h)⟩, by (repeat' (first | exact trivial | refine ⟨rfl, ?_⟩))⟩
    ·exact ⟨(1, .data 1 true [], .data 1 true []), ⟨by simp (maxSteps := 500000) -implicitDefEqProofs only [go_sem, hCe], by simp (maxSteps := 500000) -implicitDefEqProofs only [go_sem], by (try dsimp only); omega, (.inl (.inr ⟨true, rfl⟩)), (.inl (.inr ⟨true, rfl⟩)), (fun b l l' h => by cases h)⟩, by (repeat' (first | exact trivial | refine ⟨rfl, ?_⟩))⟩
    ·exact ⟨(1, .data 1 true [], .data 1 true []), ⟨by simp (maxSteps := 500000) -implicitDefEqProofs only [go_sem, hCe], by simp (maxSteps := 500000) -implicitDefEqProofs only [go_sem], by (try dsimp only); omega, (.inl (.inr ⟨true, rfl⟩)), (.inl (.inr ⟨true, rfl⟩)), (fun b l l' h => by cases h)⟩, by (repeat' (first | exact trivial | refine ⟨rfl, ?_⟩))⟩
   ·have a2 := A2 r0
    simp (maxSteps := 500000) -implicitDefEqProofs only [go_sem]
    ((try (refine Z_seq ?_; (try simp (maxSteps := 500000) -implicitDefEqProofs only [go_sem]))); refine Z_drawT (by kernel_rfl) [0, 1, 2, 3, 5, 6, 7, 8, 4, 9, 10, 11, 12] [(12, 4095), (11, 0), (10, 1023), (9, 511), (4, 15), (8, 192), (7, 64), (6, 0), (5, 0), (3, 6), (2, 2), (1, 0), (0, 0)] (.one 0 (.one 1 (.one 2 (.one 3 (.one 5 (.one 6 (.one 7 (.one 8 (.two 4 (.two 9 (.one 10 (.one 11 (.one 12 .fin))) 11 (.one 9 (.one 10 (.one 12 .fin)))) 11 (.one 4 (.one 9 (.one 10 (.one 12 .fin))))))))))))) (by kernel_rfl) (by kernel_rfl) (by kernel_rfl) ?_)
    simp (maxSteps := 500000) -implicitDefEqProofs only [go_sem, sW, sR, app_ee, a2, List.length_map, kK, kW, kR, kC, cK, cW, cR, cC, iK, iW, iR, iC]
    (repeat rw [after_normal])
    refine ⟨⟨?_, ?_⟩, ?_⟩
    ·exact ⟨(2, .data 1 true [], .slice 1 0 r.length), ⟨by simp (maxSteps := 500000) -implicitDefEqProofs only [go_sem, hCe], by simp (maxSteps := 500000) -implicitDefEqProofs only [go_sem], by (try dsimp only); omega, (.inl (.inr ⟨true, rfl⟩)), (.inr ⟨1, by (try dsimp only); omega, by (try dsimp only); omega, rfl, by simp (maxSteps := 500000) -implicitDefEqProofs only [go_sem]⟩), (fun b l l' h => by cases h)⟩, by (repeat' (first | exact trivial | refine ⟨rfl, ?_⟩))⟩
    ·exact ⟨(1, .data 1 true [], .slice 2 0 r.length), ⟨by simp (maxSteps := 500000) -implicitDefEqProofs only [go_sem, hCe], by simp (maxSteps := 500000) -implicitDefEqProofs only [go_sem], by (try dsimp only); omega, (.inl (.inr ⟨true, rfl⟩)), (.inr ⟨2, by (try dsimp only); omega, by (try dsimp only); omega, rfl, by simp (maxSteps := 500000) -implicitDefEqProofs only [go_sem]⟩), (fun b l l' h => by cases h)⟩, by (repeat' (first | exact trivial | refine ⟨rfl, ?_⟩))⟩
    ·exact ⟨(1, .data 1 true [], .slice 2 0 r.length), ⟨by simp (maxSteps := 500000) -implicitDefEqProofs only [go_sem, hCe], by simp (maxSteps := 500000) -implicitDefEqProofs only [go_sem], by (try dsimp only); omega, (.inl (.inr ⟨true, rfl⟩)), (.inr ⟨2, by (try dsimp only); omega, by (try dsimp only); omega, rfl, by simp (maxSteps := 500000) -implicitDefEqProofs only [go_sem]⟩), (fun b l l' h => by cases h)⟩, by (repeat' (first | exact trivial | refine ⟨rfl, ?_⟩))⟩
  ·have a1 := A1 l0
   by_cases r0 : r = []
   ·subst r0
    simp only [List.map_nil] at sR
    simp (maxSteps := 500000) -implicitDefEqProofs only [go_sem]
    ((try (refine Z_seq ?_; (try simp (maxSteps := 500000) -implicitDefEqProofs only [go_sem]))); refine Z_drawT (by kernel_rfl) [0, 1, 2, 3, 5, 6, 7, 8, 4, 9, 10, 11, 12] [(12, 4095), (11, 0), (10, 1023), (9, 511), (4, 15), (8, 192), (7, 64), (6, 0), (5, 0), (3, 6), (2, 2), (1, 0), (0, 0)] (.one 0 (.one 1 (.one 2 (.one 3 (.one 5 (.one 6 (.one 7 (.one 8 (.two 4 (.two 9 (.one 10 (.one 11 (.one 12 .fin))) 11 (.one 9 (.one 10 (.one 12 .fin)))) 11 (.one 4 (.one 9 (.one 10 (.one 12 .fin))))))))))))) (by kernel_rfl) (by kernel_rfl) (by kernel_rfl) ?_)
    simp (maxSteps := 500000) -implicitDefEqProofs only [go_sem, sW, sR, app_ee, a1, List.length_map, kK, kW, kR, kC, cK, cW, cR, cC, iK, iW, iR, iC]
    (repeat rw [after_normal])
    refine ⟨⟨?_, ?_⟩, ?_⟩
    ·exact ⟨(2, .slice 1 0 l.length, .data 1 true []), ⟨by simp (maxSteps := 500000) -implicitDefEqProofs only [go_sem, hCe], by simp (maxSteps := 500000) -implicitDefEqProofs only [go_sem], by (try dsimp only); omega, (.inr ⟨1, by (try dsimp only); omega, by (try dsimp only); omega, rfl, by simp (maxSteps := 500000) -implicitDefEqProofs only [go_sem]⟩), (.inl (.inr ⟨true, rfl⟩)), (fun b l l' _ h => by cases h)⟩, by (repeat' (first | exact trivial | refine ⟨rfl, ?_⟩))⟩
    ·exact ⟨(2, .slice 1 0 l.length, .data 1 true []), ⟨by simp (maxSteps := 500000) -implicitDefEqProofs only [go_sem, hCe], by simp (maxSteps := 500000) -implicitDefEqProofs only [go_sem], by (try dsimp only); omega, (.inr ⟨1, by (try dsimp only); omega, by (try dsimp only); omega, rfl, by simp (maxSteps := 500000) -implicitDefEqProofs only [go_sem]⟩), (.inl (.inr ⟨true, rfl⟩)), (fun b l l' _ h => by cases h)⟩, by (repeat' (first | exact trivial | refine ⟨rfl, ?_⟩))⟩
    ·exact ⟨(1, .slice 2 0 l.length, .data 1 true []), ⟨by simp (maxSteps := 500000) -implicitDefEqProofs only [go_sem, hCe], by simp (maxSteps := 500000) -implicitDefEqProofs only [go_sem], by (try dsimp only); omega, (.inr ⟨2, by (try dsimp only); omega, by (try dsimp only); omega, rfl, by simp (maxSteps := 500000) -implicitDefEqProofs only [go_sem]⟩), (.inl (.inr ⟨true, rfl⟩)), (fun b l l' _ h => by cases h)⟩, by (repeat' (first | exact trivial | refine ⟨rfl, ?_⟩))⟩
   ·have a2 := A2 r0
    simp (maxSteps := 500000) -implicitDefEqProofs only [go_sem]
    ((try (refine Z_seq ?_; (try simp (maxSteps := 500000) -implicitDefEqProofs only [go_sem]))); refine Z_drawT (by kernel_rfl) [0, 1, 2, 3, 5, 6, 7, 8, 4, 9, 10, 11, 12] [(12, 4095), (11, 0), (10, 1023), (9, 511), (4, 15), (8, 192), (7, 64), (6, 0), (5, 0), (3, 6), (2, 2), (1, 0), (0, 0)] (.one 0 (.one 1 (.one 2 (.one 3 (.one 5 (.one 6 (.one 7 (.one 8 (.two 4 (.two 9 (.one 10 (.one 11 (.one 12 .fin))) 11 (.one 9 (.one 10 (.one 12 .fin)))) 11 (.one 4 (.one 9 (.one 10 (.one 12 .fin))))))))))))) (by kernel_rfl) (by kernel_rfl) (by kernel_rfl) ?_)
    simp (maxSteps := 500000) -implicitDefEqProofs only [go_sem, sW, sR, a1, a2, List.length_map, kK, kW, kR, kC, cK, cW, cR, cC, iK, iW, iR, iC]
    (repeat rw [after_normal])
    refine ⟨⟨?_, ?_⟩, ?_⟩
    ·exact ⟨(3, .slice 1 0 l.length, .slice 2 0 r.length), ⟨by simp (maxSteps := 500000) -implicitDefEqProofs only [go_sem, hCe], by simp (maxSteps := 500000) -implicitDefEqProofs only [go_sem], by (try dsimp only); omega, (.inr ⟨1, by (try dsimp only); omega, by (try dsimp only); omega, rfl, by simp (maxSteps := 500000) -implicitDefEqProofs only [go_sem]⟩), (.inr ⟨2, by (try dsimp only); omega, by (try dsimp only); omega, rfl, by simp (maxSteps := 500000) -implicitDefEqProofs only [go_sem]⟩), (fun b l l' h1 h2 => by simp only [AVal.slice.injEq] at h1 h2; omega)⟩, by (repeat' (first | exact trivial | refine ⟨rfl, ?_⟩))⟩
    ·exact ⟨(2, .slice 1 0 l.length, .slice 3 0 r.length), ⟨by simp (maxSteps := 500000) -implicitDefEqProofs only [go_sem, hCe], by simp (maxSteps := 500000) -implicitDefEqProofs only [go_sem], by (try dsimp only); omega, (.inr ⟨1, by (try dsimp only); omega, by (try dsimp only); omega, rfl, by simp (maxSteps := 500000) -implicitDefEqProofs only [go_sem]⟩), (.inr ⟨3, by (try dsimp only); omega, by (try dsimp only); omega, rfl, by simp (maxSteps := 500000) -implicitDefEqProofs only [go_sem]⟩), (fun b l l' h1 h2 => by simp only [AVal.slice.injEq] at h1 h2; omega)⟩, by (repeat' (first | exact trivial | refine ⟨rfl, ?_⟩))⟩
    ·exact ⟨(1, .slice 2 0 l.length, .slice 3 0 r.length), ⟨by simp (maxSteps := 500000) -implicitDefEqProofs only [go_sem, hCe], by simp (maxSteps := 500000) -implicitDefEqProofs only [go_sem], by (try dsimp only); omega, (.inr ⟨2, by (try dsimp only); omega, by (try dsimp only); omega, rfl, by simp (maxSteps := 500000) -implicitDefEqProofs only [go_sem]⟩), (.inr ⟨3, by (try dsimp only); omega, by (try dsimp only); omega, rfl, by simp (maxSteps := 500000) -implicitDefEqProofs only [go_sem]⟩), (fun b l l' h1 h2 => by simp only [AVal.slice.injEq] at h1 h2; omega)⟩, by (repeat' (first | exact trivial | refine ⟨rfl, ?_⟩))⟩
 rintro ⟨q, Wo, Ro⟩ σ ⟨g0, gq, q0, fW, fR, ap⟩
 dsimp only at g0 gq q0 fW fR ap ⊢
 have rpl : ∀ (b : Nat) (els : List AVal), repls b 1 els [C] = [C] := by
  intro b els
  have r1 : repl b 1 els K = K := hK.repl (repls_map (fun _ => rfl) _)
  have r2 : repl b 1 els W = W := hW.repl (repls_map (fun _ => rfl) _)
  have r3 : repl b 1 els R = R := hR.repl (repls_map (fun _ => rfl) _)
  have r4 : repl b 1 els CL = CL := hC.repl (repls_map (fun _ => rfl) _)
  rw [hCe]
  simp only [repls, repl, r1, r2, r3, r4]
 refine Z_fork (P := fun x τ => IsD 1 x (l.map iA) ∧ τ.get 0 = some (.cells 10 [C]) ∧ ∃ R', τ.get q = some (.cells 2 [.agg [x, R']]) ∧ Fzd τ q R' r) ?_ ?_
 rotate_left
 ·rcases fW with hd | ⟨b, b0, bq, rfl, gb⟩
  ·exact .inl ⟨_, hd, g0, _, gq, fR⟩
  ·refine .inr ⟨b, 1, l.map iA, .data 1 false (l.map iA), gb, rfl, .inr ⟨_, rfl⟩, ?_, repl b 1 (l.map iA) Ro, ?_, ?_⟩
   ·rw [replS_get, if_neg (Ne.symm b0), g0, Option.map_some, replB_cells, rpl]
   ·rw [replS_get, if_neg (Ne.symm bq), gq, Option.map_some, replB_cells, repls_cons, repl_agg, repls_cons, repls_cons, repls_nil, self1]
   ·rcases fR with hd | ⟨b', b0', bq', rfl, gb'⟩
    ·rw [hd.repl (repls_map (fun _ => rfl) _)]; exact .inl hd
    ·have hne : b' ≠ b := fun e => ap b _ _ rfl (by rw [e])
     refine .inr ⟨b', b0', bq', by rw [repl_slice, if_neg (fun h => hne h.1)], ?_⟩
     rw [replS_get, if_neg hne, gb', Option.map_some, replB_cells, repls_map (fun _ => rfl)]
 clear g0 gq fW fR ap
 rintro Wo σ ⟨hWo, g0, Ro, gq, fR⟩
 refine Z_fork (P := fun x τ => IsD 1 x (r.map iA) ∧ τ.get 0 = some (.cells 10 [C]) ∧ τ.get q = some (.cells 2 [.agg [Wo, x]])) ?_ ?_
 rotate_left
 ·rcases fR with hd | ⟨b, b0, bq, rfl, gb⟩
  ·exact .inl ⟨_, hd, g0, gq⟩
  ·refine .inr ⟨b, 1, r.map iA, .data 1 false (r.map iA), gb, rfl, .inr ⟨_, rfl⟩, ?_, ?_⟩
   ·rw [replS_get, if_neg (Ne.symm b0), g0, Option.map_some, replB_cells, rpl]
   ·rw [replS_get, if_neg (Ne.symm bq), gq, Option.map_some, replB_cells, repls_cons, repl_agg, repls_cons, repls_cons, repls_nil, self1, hWo.repl (repls_map (fun _ => rfl) _)]
 clear g0 gq fR
 rintro Ro σ ⟨hRo, g0, gq⟩
 rw [hCe] at g0
 clear rpl hCe
 have kWo := hWo.fit
 have kRo := hRo.fit
 have cWo := hWo.cells
 have cRo := hRo.cells
 have iWo := hWo.isCell
 have iRo := hRo.isCell
 have o1 : ¬ 0 = q := fun h => q0 h.symm
 have lq := AStore.lt_of_get gq
 obtain ⟨p4, hp4⟩ : ∃ p, p = σ.next := ⟨_, rfl⟩
 have l1000 : ∀ {n : Nat}, n ≤ 40 → n ≤ 1000000 := fun h => by omega
 have oC1 := of1C (w := w) hK hC (l1000 b1) (l1000 b4) ic
 have oC2 := of2C (w := w) hK hC (l1000 b1) (l1000 b4) ic
 refine V_sound _ ?_
 simp (maxSteps := 500000) -implicitDefEqProofs only [go_sem, g0, kK, kW, kR, kC, cK, cW, cR, cC, iK, iW, iR, iC, kWo, kRo, cWo, cRo, iWo, iRo]
 (repeat' first | ((first | refine vy1 ?_ ?_ | refine vy2 ?_ ?_ | refine vy3 ?_ ?_) <;> rintro ⟨hd, hq⟩ <;> first | (exfalso; omega) | simp (maxSteps := 500000) -implicitDefEqProofs only [go_sem, hd, g0, kK, kW, kR, kC, cK, cW, cR, cC, iK, iW, iR, iC, kWo, kRo, cWo, cRo, iWo, iRo] | skip) | refine vzt ?_ | refine vzf ?_ | refine vsb ?_ | refine vzb ?_ | refine vzq ?_ | simp (maxSteps := 500000) -implicitDefEqProofs only [go_sem, g0, kK, kW, kR, kC, cK, cW, cR, cC, iK, iW, iR, iC, kWo, kRo, cWo, cRo, iWo, iRo])
 refine oC1.use ?_
 rintro _ ⟨W1, R1, rfl, hW1, hR1⟩
 have k1w := hW1.fit
 have k1r := hR1.fit
 have c1w := hW1.cells
 have c1r := hR1.cells
 have i1w := hW1.isCell
 have i1r := hR1.isCell
 obtain ⟨σ4, hs4⟩ : ∃ s, s = (σ.alloc (.cells 2 [.agg [(AVal.sc (Value.slice none 0 0)), (AVal.sc (Value.slice none 0 0))]])).set p4 (.cells 2 [.agg [W1, R1]]) := ⟨_, rfl⟩
 have n4 : σ4.next = p4 + 1 := by rw [hs4, hp4]; rfl
 have g04 : σ4.get 0 = some (.cells 10 [.agg [K, W, R, CL, (AVal.sc (Value.int IntKind.i64 (x1))), (AVal.sc (Value.int IntKind.i64 (x2))), (AVal.sc (Value.int IntKind.i64 (c1))), (AVal.sc (Value.bool (c2))), (AVal.sc (Value.bool (c3))), (AVal.sc (Value.int IntKind.i64 (c4)))]]) := by rw [hs4]; exact get_set_ne (get_alloc_old g0) (by omega)
 have gq4 : σ4.get q = some (.cells 2 [.agg [Wo, Ro]]) := by rw [hs4]; exact get_set_ne (get_alloc_old gq) (by omega)
 have g44 : σ4.get p4 = some (.cells 2 [.agg [W1, R1]]) := by rw [hs4, AStore.get_set, if_pos ⟨rfl, by rw [alloc_next]; omega⟩]
 obtain ⟨p6, hp6⟩ : ∃ p, p = σ4.next := ⟨_, rfl⟩
 (repeat' first | ((first | refine vy1 ?_ ?_ | refine vy2 ?_ ?_ | refine vy3 ?_ ?_) <;> rintro ⟨hd, hq⟩ <;> first | (exfalso; omega) | simp (maxSteps := 500000) -implicitDefEqProofs only [go_sem, hd, rgA, g0, kK, kW, kR, kC, cK, cW, cR, cC, iK, iW, iR, iC, kWo, kRo, cWo, cRo, iWo, iRo, ← hp4, ← hs4, k1w, k1r, c1w, c1r, i1w, i1r, g04] | skip) | refine vzt ?_ | refine vzf ?_ | refine vsb ?_ | refine vzb ?_ | refine vzq ?_ | simp (maxSteps := 500000) -implicitDefEqProofs only [go_sem, rgA, g0, kK, kW, kR, kC, cK, cW, cR, cC, iK, iW, iR, iC, kWo, kRo, cWo, cRo, iWo, iRo, ← hp4, ← hs4, k1w, k1r, c1w, c1r, i1w, i1r, g04])
 refine oC2.use ?_
 rintro _ ⟨W2, R2, rfl, hW2, hR2⟩
 have k2w := hW2.fit
 have k2r := hR2.fit
 have c2w := hW2.cells
 have c2r := hR2.cells
 have i2w := hW2.isCell
 have i2r := hR2.isCell
 obtain ⟨σ6, hs6⟩ : ∃ s, s = (σ4.alloc (.cells 2 [.agg [(AVal.sc (Value.slice none 0 0)), (AVal.sc (Value.slice none 0 0))]])).set p6 (.cells 2 [.agg [W2, R2]]) := ⟨_, rfl⟩
 have n6 : σ6.next = p6 + 1 := by rw [hs6, hp6]; rfl
 have g06 : σ6.get 0 = some (.cells 10 [.agg [K, W, R, CL, (AVal.sc (Value.int IntKind.i64 (x1))), (AVal.sc (Value.int IntKind.i64 (x2))), (AVal.sc (Value.int IntKind.i64 (c1))), (AVal.sc (Value.bool (c2))), (AVal.sc (Value.bool (c3))), (AVal.sc (Value.int IntKind.i64 (c4)))]]) := by rw [hs6]; exact get_set_ne (get_alloc_old g04) (by omega)
 have gq6 : σ6.get q = some (.cells 2 [.agg [Wo, Ro]]) := by rw [hs6]; exact get_set_ne (get_alloc_old gq4) (by omega)
 have g46 : σ6.get p4 = some (.cells 2 [.agg [W1, R1]]) := by rw [hs6]; exact get_set_ne (get_alloc_old g44) (by omega)
 have g66 : σ6.get p6 = some (.cells 2 [.agg [W2, R2]]) := by rw [hs6, AStore.get_set, if_pos ⟨rfl, by rw [alloc_next]; omega⟩]
 have ol := of_len (k := k) (cl := cl)
 have sC := sameC (w := w) hW1 hR1 hW2 hR2 (by omega) (by omega) (by omega) (by omega)
 rw [same_dec, same_dec, Bool.and_self] at sC
 have kC1 := checkC (w := w) hK hWo hRo (l1000 b1) (l1000 b2) (l1000 b3)
 have kC2 := rcheckC (w := w) hK hW hR (l1000 b1) (l1000 b2) (l1000 b3)
 simp only [rgA] at sC kC1 kC2
 clear g0 gq g04 gq4 g44 hs4 oC1 oC2
 (repeat' first | ((first | refine vy1 ?_ ?_ | refine vy2 ?_ ?_ | refine vy3 ?_ ?_) <;> rintro ⟨hd, hq⟩ <;> first | (exfalso; omega) | simp (maxSteps := 500000) -implicitDefEqProofs only [go_sem, hd, rgA, kK, kW, kR, kC, cK, cW, cR, cC, iK, iW, iR, iC, kWo, kRo, cWo, cRo, iWo, iRo, ← hp6, ← hs6, k1w, k1r, c1w, c1r, i1w, i1r, k2w, k2r, c2w, c2r, i2w, i2r, g06] | skip) | refine vzt ?_ | refine vzf ?_ | refine vsb ?_ | refine vzb ?_ | refine vzq ?_ | simp (maxSteps := 500000) -implicitDefEqProofs only [go_sem, rgA, kK, kW, kR, kC, cK, cW, cR, cC, iK, iW, iR, iC, kWo, kRo, cWo, cRo, iWo, iRo, ← hp6, ← hs6, k1w, k1r, c1w, c1r, i1w, i1r, k2w, k2r, c2w, c2r, i2w, i2r, g06])
 ((try (refine Z_seq ?_; (try simp (maxSteps := 500000) -implicitDefEqProofs only [go_sem]))); refine Z_draw (by kernel_rfl) [0, 1, 2, 3, 4, 5, 6, 7, 8, 9, 10, 11, 12, 14, 15, 16, 17, 13, 18, 19, 20] [(20, 1048575), (19, 524287), (18, 262143), (13, 8191), (17, 66559), (16, 1023), (15, 17407), (14, 1023), (12, 1023), (11, 2047), (10, 1023), (9, 511), (8, 255), (7, 127), (6, 31), (5, 31), (4, 15), (3, 7), (2, 3), (1, 0), (0, 0)] (by kernel_rfl) (by kernel_rfl) ?_)
 simp (maxSteps := 500000) -implicitDefEqProofs only [go_sem, g46, g66, kK, kW, kR, kC, cK, cW, cR, cC, iK, iW, iR, iC, kWo, kRo, cWo, cRo, iWo, iRo, k1w, k1r, c1w, c1r, i1w, i1r, k2w, k2r, c2w, c2r, i2w, i2r]
 refine sC.useD ?_
 simp (maxSteps := 500000) -implicitDefEqProofs only [go_sem, g06, gq6, g46, g66, kK, kW, kR, kC, cK, cW, cR, cC, iK, iW, iR, iC, kWo, kRo, cWo, cRo, iWo, iRo, k1w, k1r, c1w, c1r, i1w, i1r, k2w, k2r, c2w, c2r, i2w, i2r, same_dec]
 refine kC1.useD ?_
 simp (maxSteps := 500000) -implicitDefEqProofs only [go_sem, g06, gq6, g46, g66, kK, kW, kR, kC, cK, cW, cR, cC, iK, iW, iR, iC, kWo, kRo, cWo, cRo, iWo, iRo, k1w, k1r, c1w, c1r, i1w, i1r, k2w, k2r, c2w, c2r, i2w, i2r, same_dec]
 refine kC2.useD ?_
 simp (maxSteps := 500000) -implicitDefEqProofs only [go_sem, g06, gq6, g46, g66, kK, kW, kR, kC, cK, cW, cR, cC, iK, iW, iR, iC, kWo, kRo, cWo, cRo, iWo, iRo, k1w, k1r, c1w, c1r, i1w, i1r, k2w, k2r, c2w, c2r, i2w, i2r, same_dec]
 have n40 : ¬ 0 = p4 := by omega
 have n60 : ¬ 0 = p6 := by omega
 have n4q : ¬ q = p4 := by have := AStore.lt_of_get gq6; omega
 have n6q : ¬ q = p6 := by have := AStore.lt_of_get gq6; omega
 have n46 : ¬ p4 = p6 := by omega
 have u4 : p4 < σ6.next := by omega
 have u6 : p6 < σ6.next := by omega
 have dn : decide ((2 : Int) = 0) = false := by decide
 (repeat' first | ((first | refine vy1 ?_ ?_ | refine vy2 ?_ ?_ | refine vy3 ?_ ?_) <;> rintro ⟨hd, hq⟩ <;> first | (exfalso; omega) | simp (maxSteps := 500000) -implicitDefEqProofs only [go_sem, hd, g06, gq6, kK, kW, kR, kC, cK, cW, cR, cC, iK, iW, iR, iC, kWo, kRo, cWo, cRo, iWo, iRo] | skip) | refine vzt ?_ | refine vzf ?_ | refine vsb ?_ | refine vzb ?_ | refine vzq ?_ | simp (maxSteps := 500000) -implicitDefEqProofs only [go_sem, g06, gq6, kK, kW, kR, kC, cK, cW, cR, cC, iK, iW, iR, iC, kWo, kRo, cWo, cRo, iWo, iRo])
 refine (pointC hK hWo hRo (l1000 b1) (l1000 b2) (l1000 b3)).use ?_
 rintro _ ⟨V1, rfl, hV1⟩
 have kv1 := hV1.fit
 have cv1 := hV1.cells
 have iv1 := hV1.isCell
 (repeat' first | ((first | refine vy1 ?_ ?_ | refine vy2 ?_ ?_ | refine vy3 ?_ ?_) <;> rintro ⟨hd, hq⟩ <;> first | (exfalso; omega) | simp (maxSteps := 500000) -implicitDefEqProofs only [go_sem, hd, g06, gq6, kK, kW, kR, kC, cK, cW, cR, cC, iK, iW, iR, iC, kWo, kRo, cWo, cRo, iWo, iRo, kv1, cv1, iv1] | skip) | refine vzt ?_ | refine vzf ?_ | refine vsb ?_ | refine vzb ?_ | refine vzq ?_ | simp (maxSteps := 500000) -implicitDefEqProofs only [go_sem, g06, gq6, kK, kW, kR, kC, cK, cW, cR, cC, iK, iW, iR, iC, kWo, kRo, cWo, cRo, iWo, iRo, kv1, cv1, iv1])
 refine (rpointC hK hW hR (l1000 b1) (l1000 b2) (l1000 b3)).use ?_
 rintro _ ⟨V2, rfl, hV2⟩
 have kv2 := hV2.fit
 have cv2 := hV2.cells
 have iv2 := hV2.isCell
 have lp : (ptsP k l r).length ≤ 40 := by
  unfold ptsP
  split
  ·rw [ptsR_len]; omega
  ·simp
 have scC := sameclC (w := w) hV1 hV2 (by omega) (by omega)
 rw [same_dec] at scC
 (repeat' first | ((first | refine vy1 ?_ ?_ | refine vy2 ?_ ?_ | refine vy3 ?_ ?_) <;> rintro ⟨hd, hq⟩ <;> first | (exfalso; omega) | simp (maxSteps := 500000) -implicitDefEqProofs only [go_sem, hd, g06, gq6, kK, kW, kR, kC, cK, cW, cR, cC, iK, iW, iR, iC, kWo, kRo, cWo, cRo, iWo, iRo, kv1, cv1, iv1, kv2, cv2, iv2] | skip) | refine vzt ?_ | refine vzf ?_ | refine vsb ?_ | refine vzb ?_ | refine vzq ?_ | simp (maxSteps := 500000) -implicitDefEqProofs only [go_sem, g06, gq6, kK, kW, kR, kC, cK, cW, cR, cC, iK, iW, iR, iC, kWo, kRo, cWo, cRo, iWo, iRo, kv1, cv1, iv1, kv2, cv2, iv2])
 refine scC.use ?_
 (repeat' first | ((first | refine vy1 ?_ ?_ | refine vy2 ?_ ?_ | refine vy3 ?_ ?_) <;> rintro ⟨hd, hq⟩ <;> first | (exfalso; omega) | simp (maxSteps := 500000) -implicitDefEqProofs only [go_sem, hd, same_dec, g06, gq6, kK, kW, kR, kC, cK, cW, cR, cC, iK, iW, iR, iC, kWo, kRo, cWo, cRo, iWo, iRo] | skip) | refine vzt ?_ | refine vzf ?_ | refine vsb ?_ | refine vzb ?_ | refine vzq ?_ | simp (maxSteps := 500000) -implicitDefEqProofs only [go_sem, same_dec, g06, gq6, kK, kW, kR, kC, cK, cW, cR, cC, iK, iW, iR, iC, kWo, kRo, cWo, cRo, iWo, iRo])
 have ll := lat_len (k := k) (l := l) (r := r)
 refine (later1C hK hWo hRo (l1000 b1) (l1000 b2) (l1000 b3)).use ?_
 rintro _ ⟨W3, R3, rfl, hW3, hR3⟩
 have k3w := hW3.fit
 have k3r := hR3.fit
 have c3w := hW3.cells
 have c3r := hR3.cells
 have i3w := hW3.isCell
 have i3r := hR3.isCell
 obtain ⟨τ7, ht7⟩ : ∃ s, s = σ6.set p4 (.cells 2 [.agg [W3, R3]]) := ⟨_, rfl⟩
 have e07 : τ7.get 0 = some (.cells 10 [.agg [K, W, R, CL, (AVal.sc (Value.int IntKind.i64 (x1))), (AVal.sc (Value.int IntKind.i64 (x2))), (AVal.sc (Value.int IntKind.i64 (c1))), (AVal.sc (Value.bool (c2))), (AVal.sc (Value.bool (c3))), (AVal.sc (Value.int IntKind.i64 (c4)))]]) := by rw [ht7]; exact get_set_ne g06 n40
 have eq7 : τ7.get q = some (.cells 2 [.agg [Wo, Ro]]) := by rw [ht7]; exact get_set_ne gq6 n4q
 have e47 : τ7.get p4 = some (.cells 2 [.agg [W3, R3]]) := by rw [ht7, AStore.get_set, if_pos ⟨rfl, u4⟩]
 (repeat' first | ((first | refine vy1 ?_ ?_ | refine vy2 ?_ ?_ | refine vy3 ?_ ?_) <;> rintro ⟨hd, hq⟩ <;> first | (exfalso; omega) | simp (maxSteps := 500000) -implicitDefEqProofs only [go_sem, hd, rgA, e07, g46, u4, ← ht7, kK, kW, kR, kC, cK, cW, cR, cC, iK, iW, iR, iC, kWo, kRo, cWo, cRo, iWo, iRo, k3w, k3r, c3w, c3r, i3w, i3r] | skip) | refine vzt ?_ | refine vzf ?_ | refine vsb ?_ | refine vzb ?_ | refine vzq ?_ | simp (maxSteps := 500000) -implicitDefEqProofs only [go_sem, rgA, e07, g46, u4, ← ht7, kK, kW, kR, kC, cK, cW, cR, cC, iK, iW, iR, iC, kWo, kRo, cWo, cRo, iWo, iRo, k3w, k3r, c3w, c3r, i3w, i3r])
 refine (later2C hK hW hR (l1000 b1) (l1000 b2) (l1000 b3)).use ?_
 rintro _ ⟨W4, R4, rfl, hW4, hR4⟩
 have k4w := hW4.fit
 have k4r := hR4.fit
 have c4w := hW4.cells
 have c4r := hR4.cells
 have i4w := hW4.isCell
 have i4r := hR4.isCell
 obtain ⟨σ7, hs7⟩ : ∃ s, s = τ7.set p6 (.cells 2 [.agg [W4, R4]]) := ⟨_, rfl⟩
 have g07 : σ7.get 0 = some (.cells 10 [.agg [K, W, R, CL, (AVal.sc (Value.int IntKind.i64 (x1))), (AVal.sc (Value.int IntKind.i64 (x2))), (AVal.sc (Value.int IntKind.i64 (c1))), (AVal.sc (Value.bool (c2))), (AVal.sc (Value.bool (c3))), (AVal.sc (Value.int IntKind.i64 (c4)))]]) := by rw [hs7]; exact get_set_ne e07 n60
 have gq7 : σ7.get q = some (.cells 2 [.agg [Wo, Ro]]) := by rw [hs7]; exact get_set_ne eq7 n6q
 have g47 : σ7.get p4 = some (.cells 2 [.agg [W3, R3]]) := by rw [hs7]; exact get_set_ne e47 n46
 have v67 : p6 < τ7.next := by rw [ht7]; exact u6
 have g67 : σ7.get p6 = some (.cells 2 [.agg [W4, R4]]) := by rw [hs7, AStore.get_set, if_pos ⟨rfl, v67⟩]
 have t67 : τ7.get p6 = σ6.get p6 := by rw [ht7, AStore.get_set, if_neg (fun h => n46 h.1.symm)]
 have s7C := sameC (w := w) hW3 hR3 hW4 hR4 (by omega) (by omega) (by omega) (by omega)
 rw [same_dec, same_dec, Bool.and_self] at s7C
 simp only [rgA] at s7C
 (repeat' first | ((first | refine vy1 ?_ ?_ | refine vy2 ?_ ?_ | refine vy3 ?_ ?_) <;> rintro ⟨hd, hq⟩ <;> first | (exfalso; omega) | simp (maxSteps := 500000) -implicitDefEqProofs only [go_sem, hd, rgA, e07, t67, g66, v67, ← hs7, g47, g67, kK, kW, kR, kC, cK, cW, cR, cC, iK, iW, iR, iC, kWo, kRo, cWo, cRo, iWo, iRo, k3w, k3r, c3w, c3r, i3w, i3r, k4w, k4r, c4w, c4r, i4w, i4r, same_dec] | skip) | refine vzt ?_ | refine vzf ?_ | refine vsb ?_ | refine vzb ?_ | refine vzq ?_ | simp (maxSteps := 500000) -implicitDefEqProofs only [go_sem, rgA, e07, t67, g66, v67, ← hs7, g47, g67, kK, kW, kR, kC, cK, cW, cR, cC, iK, iW, iR, iC, kWo, kRo, cWo, cRo, iWo, iRo, k3w, k3r, c3w, c3r, i3w, i3r, k4w, k4r, c4w, c4r, i4w, i4r, same_dec])
 refine s7C.use ?_
 have u4 : p4 < σ7.next := by rw [hs7, ht7]; exact u4
 have u6 : p6 < σ7.next := by rw [hs7, ht7]; exact u6
 (repeat' first | ((first | refine vy1 ?_ ?_ | refine vy2 ?_ ?_ | refine vy3 ?_ ?_) <;> rintro ⟨hd, hq⟩ <;> first | (exfalso; omega) | simp (maxSteps := 500000) -implicitDefEqProofs only [go_sem, hd, same_dec, beq_self_eq_true, g07, gq7, kK, kW, kR, kC, cK, cW, cR, cC, iK, iW, iR, iC, kWo, kRo, cWo, cRo, iWo, iRo] | skip) | refine vzt ?_ | refine vzf ?_ | refine vsb ?_ | refine vzb ?_ | refine vzq ?_ | simp (maxSteps := 500000) -implicitDefEqProofs only [go_sem, same_dec, beq_self_eq_true, g07, gq7, kK, kW, kR, kC, cK, cW, cR, cC, iK, iW, iR, iC, kWo, kRo, cWo, cRo, iWo, iRo])
 have lr2 := rst_len (k := k) (l := l) (r := r) (x := (x1, x2))
 refine (reset1C (x := (x1, x2)) hK hWo hRo (l1000 b1) (l1000 b2) (l1000 b3) ix.1 ix.2).use ?_
 rintro _ ⟨W5, R5, rfl, hW5, hR5⟩
 have k5w := hW5.fit
 have k5r := hR5.fit
 have c5w := hW5.cells
 have c5r := hR5.cells
 have i5w := hW5.isCell
 have i5r := hR5.isCell
 obtain ⟨τ8, ht8⟩ : ∃ s, s = σ7.set p4 (.cells 2 [.agg [W5, R5]]) := ⟨_, rfl⟩
 have e08 : τ8.get 0 = some (.cells 10 [.agg [K, W, R, CL, (AVal.sc (Value.int IntKind.i64 (x1))), (AVal.sc (Value.int IntKind.i64 (x2))), (AVal.sc (Value.int IntKind.i64 (c1))), (AVal.sc (Value.bool (c2))), (AVal.sc (Value.bool (c3))), (AVal.sc (Value.int IntKind.i64 (c4)))]]) := by rw [ht8]; exact get_set_ne g07 n40
 have eq8 : τ8.get q = some (.cells 2 [.agg [Wo, Ro]]) := by rw [ht8]; exact get_set_ne gq7 n4q
 have e48 : τ8.get p4 = some (.cells 2 [.agg [W5, R5]]) := by rw [ht8, AStore.get_set, if_pos ⟨rfl, u4⟩]
 (repeat' first | ((first | refine vy1 ?_ ?_ | refine vy2 ?_ ?_ | refine vy3 ?_ ?_) <;> rintro ⟨hd, hq⟩ <;> first | (exfalso; omega) | simp (maxSteps := 500000) -implicitDefEqProofs only [go_sem, hd, rgA, e08, g47, u4, ← ht8, kK, kW, kR, kC, cK, cW, cR, cC, iK, iW, iR, iC, kWo, kRo, cWo, cRo, iWo, iRo, k5w, k5r, c5w, c5r, i5w, i5r] | skip) | refine vzt ?_ | refine vzf ?_ | refine vsb ?_ | refine vzb ?_ | refine vzq ?_ | simp (maxSteps := 500000) -implicitDefEqProofs only [go_sem, rgA, e08, g47, u4, ← ht8, kK, kW, kR, kC, cK, cW, cR, cC, iK, iW, iR, iC, kWo, kRo, cWo, cRo, iWo, iRo, k5w, k5r, c5w, c5r, i5w, i5r])
 refine (reset2C (x := (x1, x2)) hK hW hR (l1000 b1) (l1000 b2) (l1000 b3) ix.1 ix.2).use ?_
 rintro _ ⟨W6, R6, rfl, hW6, hR6⟩
 have k6w := hW6.fit
 have k6r := hR6.fit
 have c6w := hW6.cells
 have c6r := hR6.cells
 have i6w := hW6.isCell
 have i6r := hR6.isCell
 obtain ⟨σ8, hs8⟩ : ∃ s, s = τ8.set p6 (.cells 2 [.agg [W6, R6]]) := ⟨_, rfl⟩
 have g08 : σ8.get 0 = some (.cells 10 [.agg [K, W, R, CL, (AVal.sc (Value.int IntKind.i64 (x1))), (AVal.sc (Value.int IntKind.i64 (x2))), (AVal.sc (Value.int IntKind.i64 (c1))), (AVal.sc (Value.bool (c2))), (AVal.sc (Value.bool (c3))), (AVal.sc (Value.int IntKind.i64 (c4)))]]) := by rw [hs8]; exact get_set_ne e08 n60
 have gq8 : σ8.get q = some (.cells 2 [.agg [Wo, Ro]]) := by rw [hs8]; exact get_set_ne eq8 n6q
 have g48 : σ8.get p4 = some (.cells 2 [.agg [W5, R5]]) := by rw [hs8]; exact get_set_ne e48 n46
 have v68 : p6 < τ8.next := by rw [ht8]; exact u6
 have g68 : σ8.get p6 = some (.cells 2 [.agg [W6, R6]]) := by rw [hs8, AStore.get_set, if_pos ⟨rfl, v68⟩]
 have t68 : τ8.get p6 = σ7.get p6 := by rw [ht8, AStore.get_set, if_neg (fun h => n46 h.1.symm)]
 have s8C := sameC (w := w) hW5 hR5 hW6 hR6 (by omega) (by omega) (by omega) (by omega)
 rw [same_dec, same_dec, Bool.and_self] at s8C
 simp only [rgA] at s8C
 (repeat' first | ((first | refine vy1 ?_ ?_ | refine vy2 ?_ ?_ | refine vy3 ?_ ?_) <;> rintro ⟨hd, hq⟩ <;> first | (exfalso; omega) | simp (maxSteps := 500000) -implicitDefEqProofs only [go_sem, hd, rgA, e08, t68, g67, v68, ← hs8, g48, g68, kK, kW, kR, kC, cK, cW, cR, cC, iK, iW, iR, iC, kWo, kRo, cWo, cRo, iWo, iRo, k5w, k5r, c5w, c5r, i5w, i5r, k6w, k6r, c6w, c6r, i6w, i6r, same_dec] | skip) | refine vzt ?_ | refine vzf ?_ | refine vsb ?_ | refine vzb ?_ | refine vzq ?_ | simp (maxSteps := 500000) -implicitDefEqProofs only [go_sem, rgA, e08, t68, g67, v68, ← hs8, g48, g68, kK, kW, kR, kC, cK, cW, cR, cC, iK, iW, iR, iC, kWo, kRo, cWo, cRo, iWo, iRo, k5w, k5r, c5w, c5r, i5w, i5r, k6w, k6r, c6w, c6r, i6w, i6r, same_dec])
 refine s8C.use ?_
 have u4 : p4 < σ8.next := by rw [hs8, ht8]; exact u4
 have u6 : p6 < σ8.next := by rw [hs8, ht8]; exact u6
 have f1C := fits1C (w := w) (c := (c1, c2, c3, c4)) hK hWo hRo (l1000 b1) (l1000 b2) (l1000 b3) icn.1 icn.2
 have f2C := fits2C (w := w) (c := (c1, c2, c3, c4)) hK hW hR (l1000 b1) (l1000 b2) (l1000 b3) icn.1 icn.2
 have soC := sameC (w := w) hWo hRo hW hR (l1000 b2) (l1000 b3) (l1000 b2) (l1000 b3)
 rw [same_dec, same_dec, Bool.and_self] at soC
 simp only [rgA] at soC
 (repeat' first | ((first | refine vy1 ?_ ?_ | refine vy2 ?_ ?_ | refine vy3 ?_ ?_) <;> rintro ⟨hd, hq⟩ <;> first | (exfalso; omega) | simp (maxSteps := 500000) -implicitDefEqProofs only [go_sem, hd, same_dec, beq_self_eq_true, g08, gq8, kK, kW, kR, kC, cK, cW, cR, cC, iK, iW, iR, iC, kWo, kRo, cWo, cRo, iWo, iRo] | skip) | refine vzt ?_ | refine vzf ?_ | refine vsb ?_ | refine vzb ?_ | refine vzq ?_ | simp (maxSteps := 500000) -implicitDefEqProofs only [go_sem, same_dec, beq_self_eq_true, g08, gq8, kK, kW, kR, kC, cK, cW, cR, cC, iK, iW, iR, iC, kWo, kRo, cWo, cRo, iWo, iRo])
 refine f1C.use ?_
 (repeat' first | ((first | refine vy1 ?_ ?_ | refine vy2 ?_ ?_ | refine vy3 ?_ ?_) <;> rintro ⟨hd, hq⟩ <;> first | (exfalso; omega) | simp (maxSteps := 500000) -implicitDefEqProofs only [go_sem, hd, same_dec, beq_self_eq_true, g08, gq8, kK, kW, kR, kC, cK, cW, cR, cC, iK, iW, iR, iC, kWo, kRo, cWo, cRo, iWo, iRo] | skip) | refine vzt ?_ | refine vzf ?_ | refine vsb ?_ | refine vzb ?_ | refine vzq ?_ | simp (maxSteps := 500000) -implicitDefEqProofs only [go_sem, same_dec, beq_self_eq_true, g08, gq8, kK, kW, kR, kC, cK, cW, cR, cC, iK, iW, iR, iC, kWo, kRo, cWo, cRo, iWo, iRo])
 refine f2C.use ?_
 simp (maxSteps := 500000) -implicitDefEqProofs only [go_sem, same_dec, beq_self_eq_true, g08, gq8, kK, kW, kR, kC, cK, cW, cR, cC, iK, iW, iR, iC, kWo, kRo, cWo, cRo, iWo, iRo]
 refine soC.use ?_
 simp (maxSteps := 500000) -implicitDefEqProofs only [go_sem, same_dec, beq_self_eq_true, g08, gq8, kK, kW, kR, kC, cK, cW, cR, cC, iK, iW, iR, iC, kWo, kRo, cWo, cRo, iWo, iRo]
 refine haw.use ?_
 rintro v rfl
 (repeat' first | ((first | refine vy1 ?_ ?_ | refine vy2 ?_ ?_ | refine vy3 ?_ ?_) <;> rintro ⟨hd, hq⟩ <;> first | (exfalso; omega) | simp (maxSteps := 500000) -implicitDefEqProofs only [go_sem, hd] | skip) | refine vzt ?_ | refine vzf ?_ | refine vsb ?_ | refine vzb ?_ | refine vzq ?_ | simp (maxSteps := 500000) -implicitDefEqProofs only [go_sem])
end Abs
