/-
  Functions of the program walked: each is shown to compute a plain function (RegC1).
-/
import Derived.Test.YtdmelhjbbaaphaaGreatDoorPtRegB2
import Derived.Test.YtdmelhjbbaaphaaGreatDoorPtRegA1
import Derived.Test.YtdmelhjbbaaphaaGreatDoorPtRegY
namespace Abs
set_option linter.unusedSimpArgs false
set_option linter.unusedVariables false
set_option maxRecDepth 100000
set_option maxHeartbeats 2000000
open Go Go.Proofs
def caseA (K W R CL : AVal) (x : Int × Int) (c : Int × Bool × Bool × Int) : AVal := .agg [K, W, R, CL, (AVal.sc (Value.int IntKind.i64 (x.1))), (AVal.sc (Value.int IntKind.i64 (x.2))), (AVal.sc (Value.int IntKind.i64 (c.1))), (AVal.sc (Value.bool (c.2.1))), (AVal.sc (Value.bool (c.2.2.1))), (AVal.sc (Value.int IntKind.i64 (c.2.2.2)))]
structure IsCase (K W R CL : AVal) (k l r : List Int) (cl : List (Int × Int)) (x : Int × Int) (c : Int × Bool × Bool × Int) : Prop where
 hk : IsD 1 K (k.map iA)
 hw : IsD 1 W (l.map iA)
 hr : IsD 1 R (r.map iA)
 hc : IsD 2 CL (cl.map rA)
 lk : k.length ≤ 9223372036854775807
 lw : l.length ≤ 9223372036854775807
 lr : r.length ≤ 9223372036854775807
 lc : cl.length ≤ 9223372036854775807
 ic : ∀ x ∈ cl, in64 x.1 ∧ in64 x.2
 ix : in64 x.1 ∧ in64 x.2
 icn : in64 c.1 ∧ in64 c.2.2.2
theorem IsCase.wf {K W R CL : AVal} {k l r : List Int} {cl : List (Int × Int)} {x : Int × Int} {c : Int × Bool × Bool × Int} (h : IsCase K W R CL k l r cl x c) : WF 0 (caseA K W R CL x c) :=
 .agg _ (.cons _ _ (h.hk.wf (wf_is k)) (.cons _ _ (h.hw.wf (wf_is l)) (.cons _ _ (h.hr.wf (wf_is r)) (.cons _ _ (h.hc.wf (map_rA_wf cl)) (.cons _ _ (.sc _) (.cons _ _ (.sc _) (.cons _ _ (.sc _) (.cons _ _ (.sc _) (.cons _ _ (.sc _) (.cons _ _ (.sc _) .nil))))))))))
def bigB (k l r : List Int) (cl : List (Int × Int)) : Bool := decide (40 < k.length) || (decide (40 < l.length) || (decide (40 < r.length) || decide (40 < cl.length)))
theorem largeC {w : World} {K W R CL : AVal} {k l r : List Int} {cl : List (Int × Int)} {x : Int × Int} {c : Int × Bool × Bool × Int} (h : IsCase K W R CL k l r cl x c) : GivesV (EE w) 5 [caseA K W R CL x c] (AVal.sc (Value.bool (bigB k l r cl))) := by
 refine GivesV.of (fun _ => .sc _) (.cons _ _ h.wf .nil) 4 ?_
 obtain ⟨hK, hW, hR, hC, lk, lw, lr, lc, _, _, _⟩ := h
 have kK := hK.fit
 have kW := hW.fit
 have kR := hR.fit
 have kC := hC.fit
 have cK := hK.cells
 have cW := hW.cells
 have cR := hR.cells
 have cC := hC.cells
 have iK := hK.isCell
 have iW := hW.isCell
 have iR := hR.isCell
 have iC := hC.isCell
 obtain ⟨c1, c2, c3, c4⟩ := c
 obtain ⟨x1, x2⟩ := x
 refine of_5 rfl rfl rfl (by kernel_rfl) ?_
 simp (maxSteps := 500000) -implicitDefEqProofs only [go_sem, caseA, kK, kW, kR, kC, cK, cW, cR, cC, iK, iW, iR, iC]
 by_cases a1 : 40 < k.length
 ·have a1' : (40 : Int) < k.length := by omega
  (repeat' first | ((first | refine vy1 ?_ ?_ | refine vy2 ?_ ?_ | refine vy3 ?_ ?_) <;> rintro ⟨hd, hq⟩ <;> first | (exfalso; omega) | simp (maxSteps := 500000) -implicitDefEqProofs only [go_sem, hd, hK.len, dct a1'] | skip) | refine vzt ?_ | refine vzf ?_ | refine vsb ?_ | refine vzb ?_ | refine vzq ?_ | simp (maxSteps := 500000) -implicitDefEqProofs only [go_sem, hK.len, dct a1'])
  exact ⟨_, rfl, by simp only [bigB, dct a1, Bool.true_or]; rfl⟩
 have a1' : ¬ (40 : Int) < k.length := by omega
 by_cases a2 : 40 < l.length
 ·have a2' : (40 : Int) < l.length := by omega
  (repeat' first | ((first | refine vy1 ?_ ?_ | refine vy2 ?_ ?_ | refine vy3 ?_ ?_) <;> rintro ⟨hd, hq⟩ <;> first | (exfalso; omega) | simp (maxSteps := 500000) -implicitDefEqProofs only [go_sem, hd, hK.len, hW.len, dcf a1', dct a2'] | skip) | refine vzt ?_ | refine vzf ?_ | refine vsb ?_ | refine vzb ?_ | refine vzq ?_ | simp (maxSteps := 500000) -implicitDefEqProofs only [go_sem, hK.len, hW.len, dcf a1', dct a2'])
  exact ⟨_, rfl, by simp only [bigB, dct a2, Bool.true_or, Bool.or_true]; rfl⟩
 have a2' : ¬ (40 : Int) < l.length := by omega
 by_cases a3 : 40 < r.length
 ·have a3' : (40 : Int) < r.length := by omega
  (repeat' first | ((first | refine vy1 ?_ ?_ | refine vy2 ?_ ?_ | refine vy3 ?_ ?_) <;> rintro ⟨hd, hq⟩ <;> first | (exfalso; omega) | simp (maxSteps := 500000) -implicitDefEqProofs only [go_sem, hd, hK.len, hW.len, hR.len, dcf a1', dcf a2', dct a3'] | skip) | refine vzt ?_ | refine vzf ?_ | refine vsb ?_ | refine vzb ?_ | refine vzq ?_ | simp (maxSteps := 500000) -implicitDefEqProofs only [go_sem, hK.len, hW.len, hR.len, dcf a1', dcf a2', dct a3'])
  exact ⟨_, rfl, by simp only [bigB, dct a3, Bool.true_or, Bool.or_true]; rfl⟩
 have a3' : ¬ (40 : Int) < r.length := by omega
 by_cases a4 : 40 < cl.length
 ·have a4' : (40 : Int) < cl.length := by omega
  (repeat' first | ((first | refine vy1 ?_ ?_ | refine vy2 ?_ ?_ | refine vy3 ?_ ?_) <;> rintro ⟨hd, hq⟩ <;> first | (exfalso; omega) | simp (maxSteps := 500000) -implicitDefEqProofs only [go_sem, hd, hK.len, hW.len, hR.len, hC.len, dcf a1', dcf a2', dcf a3', dct a4'] | skip) | refine vzt ?_ | refine vzf ?_ | refine vsb ?_ | refine vzb ?_ | refine vzq ?_ | simp (maxSteps := 500000) -implicitDefEqProofs only [go_sem, hK.len, hW.len, hR.len, hC.len, dcf a1', dcf a2', dcf a3', dct a4'])
  exact ⟨_, rfl, by simp only [bigB, dct a4, Bool.or_true]; rfl⟩
 have a4' : ¬ (40 : Int) < cl.length := by omega
 (repeat' first | ((first | refine vy1 ?_ ?_ | refine vy2 ?_ ?_ | refine vy3 ?_ ?_) <;> rintro ⟨hd, hq⟩ <;> first | (exfalso; omega) | simp (maxSteps := 500000) -implicitDefEqProofs only [go_sem, hd, hK.len, hW.len, hR.len, hC.len, dcf a1', dcf a2', dcf a3', dcf a4'] | skip) | refine vzt ?_ | refine vzf ?_ | refine vsb ?_ | refine vzb ?_ | refine vzq ?_ | simp (maxSteps := 500000) -implicitDefEqProofs only [go_sem, hK.len, hW.len, hR.len, hC.len, dcf a1', dcf a2', dcf a3', dcf a4'])
 exact ⟨_, rfl, by simp only [bigB, dcf a1, dcf a2, dcf a3, dcf a4, Bool.or_false]; rfl⟩
theorem same_dec {α : Type} [DecidableEq α] (x : α) : decide (x = x) = true := dct rfl
end Abs
