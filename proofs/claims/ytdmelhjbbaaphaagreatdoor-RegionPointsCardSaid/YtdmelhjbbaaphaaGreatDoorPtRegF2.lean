/-
  Functions of the program walked: each is shown to compute a plain function (RegF2).
-/
import Derived.Test.YtdmelhjbbaaphaaGreatDoorPtRegC1
import Derived.KernelRfl
import Derived.Test.YtdmelhjbbaaphaaGreatDoorPtRegN
namespace Abs
set_option linter.unusedSimpArgs false
set_option linter.unusedVariables false
set_option maxRecDepth 100000
set_option maxHeartbeats 2000000
open Go Go.Proofs
section
variable {w : World} {lit : Bool} {ρ : ARho} {σ : AStore} {args : List AVal} {R : AEnd → AStore → Prop}
theorem bs_52 {n : Nat} {ps : Array (Nat × Operand)} : aOp (EE w) lit (.buildSlice 52 n ps) ρ σ = opBuildSl σ lit ⟨2, 16, (.agg [(.sc (.int Go.IntKind.i64 (0))), (.sc (.int Go.IntKind.i64 (0)))])⟩ n (partsSome ρ ps.toList) := op_buildSlice (by kernel_rfl)
theorem fn_22 : (EE w).fns 22 = true := by kernel_rfl
theorem ln_52 {x : AVal} : opBi (EE w) .len [52] σ (some [x]) = .ofV σ (aLen (.slice 0) x σ) := bi_len (by kernel_rfl)
theorem ia_52 {x y : Operand} : aOp (EE w) lit (.indexAddr 52 x y) ρ σ = opIA σ ⟨2, 16, (.agg [(.sc (.int Go.IntKind.i64 (0))), (.sc (.int Go.IntKind.i64 (0)))])⟩ (ρ x) (ρ y) := op_indexAddr (by kernel_rfl)
attribute [go_sem] bs_52 fn_22 ln_52 ia_52
theorem of_4 (hn : Nat.ble args.length 234 = true) (hl : Nat.blt args.length 1000 = true) {c : Code} (hc : Tryz.f4.body = some c) (hk : okC 234 c = true) (h : V (EE w) 234 c (vFin (EE w) [.tmp 4] R) (initE args 0) σ) : ACalls (EE w) 4 args σ R :=
 ACalls.of_V' (n := 234) rfl Tryz.f4 c _ Tryz.func4 hc (by kernel_rfl) (by kernel_rfl) hk hn hl h
theorem of_22 (hn : Nat.ble args.length 31 = true) (hl : Nat.blt args.length 1000 = true) {c : Code} (hc : Tryz.f22.body = some c) (hk : okC 31 c = true) (h : V (EE w) 31 c (vFin (EE w) [.tmp 4] R) (initE args 0) σ) : ACalls (EE w) 22 args σ R :=
 ACalls.of_V' (n := 31) rfl Tryz.f22 c _ Tryz.func22 hc (by kernel_rfl) (by kernel_rfl) hk hn hl h
end
end Abs
namespace Abs
set_option linter.unusedSimpArgs false
set_option linter.unusedVariables false
set_option maxRecDepth 100000
set_option maxHeartbeats 2000000
open Go Go.Proofs
theorem behindC {w : World} {CL L : AVal} {cl : List (Int × Int)} {x : Int × Int} (hC : IsD 2 CL (cl.map rA)) (hL : IsD 2 L [rsA x]) (h1 : 1 ≤ x.1) (h2 : x.1 ≤ cl.length) (hl : cl.length ≤ 1000000) :
  Gives (EE w) 22 [CL, L] fun v => IsD 2 v ((cl.set (x.1 - 1).toNat (x.2, 1)).map rA) := by
 refine Gives.of (fun _ => .sc _) (.cons _ _ (hC.wf (map_rA_wf cl)) (.cons _ _ (hL.wf (.cons _ _ (wfRs x) .nil)) .nil)) 6 ?_
 obtain ⟨i, hi⟩ : ∃ i : Nat, x.1 = (i : Int) + 1 := ⟨(x.1 - 1).toNat, by omega⟩
 obtain ⟨x1, x2⟩ := x
 dsimp only at hi h1 h2
 subst hi
 have hix : ((i : Int) + 1 - 1).toNat = i := by omega
 dsimp only
 rw [hix]
 have hne : cl.map rA ≠ [] := by
  intro h
  have : cl = [] := by simpa using h
  subst this; simp at h2; omega
 have sC := fun σ : AStore => hC.src (σ := σ)
 have hL0 : ([rsA ((i : Int) + 1, x2)] : List AVal)[0]? = some (rsA ((i : Int) + 1, x2)) := rfl
 have wC := wholeC (w := w) x2
 simp only [rA] at wC
 have hw : IntKind.i64.wrap ((i : Int) + 1 - 1) = (i : Int) := by rw [wrap64 (by omega) (by omega)]; omega
 obtain ⟨⟨ya, yb⟩, hy⟩ : ∃ y, cl[i]? = some y := ⟨cl[i]'(by omega), List.getElem?_eq_getElem _⟩
 have hy0 : (cl.map rA)[i]? = some (rA (ya, yb)) := by rw [List.getElem?_map, hy]; rfl
 have app : aAppend 2 16 (.slice 0 0 0) (cl.map rA) (empty.alloc (.cells 2 [])) = some (.slice 1 0 cl.length, ((empty.alloc (.cells 2 [])).del 0).alloc (.cells 2 (cl.map rA))) := by
  have := app_full (σ := empty.alloc (.cells 2 [])) (b := 0) (sz := 2) (bytes := 16) (els := []) (xs := cl.map rA) rfl hne (by simp; omega) (by decide) (by decide) (allCells_map (fun x => rfl_cells x |> fun h => by simpa [allCells] using h) cl)
  exact this.trans (by simp only [List.length_nil, Nat.zero_add, List.length_map, List.nil_append]; rfl)
 refine of_22 rfl rfl rfl (by kernel_rfl) ?_
 simp (maxSteps := 500000) -implicitDefEqProofs only [go_sem]
 (repeat' first | ((first | refine vy1 ?_ ?_ | refine vy2 ?_ ?_ | refine vy3 ?_ ?_) <;> rintro ⟨hd, hq⟩ <;> first | (exfalso; omega) | simp (maxSteps := 500000) -implicitDefEqProofs only [go_sem, hd, sC, app] | skip) | refine vzt ?_ | refine vzf ?_ | refine vsb ?_ | refine vzb ?_ | refine vzq ?_ | simp (maxSteps := 500000) -implicitDefEqProofs only [go_sem, sC, app])
 (first | refine Z_block_loop (ι := Nat) (fun j => [(0, CL), (1, L), (5, .slice 1 0 cl.length), (6, (AVal.sc (Value.int IntKind.i64 (j))))]) (fun j σ => j ≤ 1 ∧ σ.get 1 = some (.cells 2 ((if j = 0 then cl else cl.set i (x2, 1)).map rA))) (fun j => 1 - j) (fun _ => rfl) 0 ?_ ?_ ?_ | refine Z_seq_loop (ι := Nat) (fun j => [(0, CL), (1, L), (5, .slice 1 0 cl.length), (6, (AVal.sc (Value.int IntKind.i64 (j))))]) (fun j σ => j ≤ 1 ∧ σ.get 1 = some (.cells 2 ((if j = 0 then cl else cl.set i (x2, 1)).map rA))) (fun j => 1 - j) (fun _ => rfl) 0 ?_ ?_ ?_ | refine Z_loop (ι := Nat) (fun j => [(0, CL), (1, L), (5, .slice 1 0 cl.length), (6, (AVal.sc (Value.int IntKind.i64 (j))))]) (fun j σ => j ≤ 1 ∧ σ.get 1 = some (.cells 2 ((if j = 0 then cl else cl.set i (x2, 1)).map rA))) (fun j => 1 - j) (fun _ => rfl) 0 ?_ ?_ ?_)
 ·(repeat' (first | exact trivial | refine ⟨rfl, ?_⟩))
 ·exact ⟨by omega, by simp (maxSteps := 500000) -implicitDefEqProofs only [go_sem]⟩
 rintro j σ ⟨hj, g⟩
 have hll : ([rsA ((i : Int) + 1, x2)] : List AVal).length = 1 := rfl
 by_cases e : j = 0
 ·subst e
  rw [if_pos rfl] at g
  have hlt := AStore.lt_of_get g
  have hie : (0 : Int) ≤ i ∧ (i : Int) < (cl.length : Int) := ⟨by omega, by omega⟩
  have d1 : decide ((0 : Int) < 1) = true := by decide
  have hlen : (cl.map rA).length = cl.length := List.length_map _
  simp (maxSteps := 500000) -implicitDefEqProofs only [go_sem, hL.len, hll]
  (repeat' first | ((first | refine vy1 ?_ ?_ | refine vy2 ?_ ?_ | refine vy3 ?_ ?_) <;> rintro ⟨hd, hq⟩ <;> first | (exfalso; omega) | simp (maxSteps := 500000) -implicitDefEqProofs only [go_sem, hd, d1] | skip) | refine vzt ?_ | refine vzf ?_ | refine vsb ?_ | refine vzb ?_ | refine vzq ?_ | simp (maxSteps := 500000) -implicitDefEqProofs only [go_sem, d1])
  ((try (refine Z_seq ?_; (try simp (maxSteps := 500000) -implicitDefEqProofs only [go_sem]))); refine Z_draw (by kernel_rfl) [0, 1, 2, 3, 4, 5, 6, 7, 8, 9, 10, 11, 12, 13, 14] [(14, 16383), (13, 8191), (12, 3968), (11, 1920), (10, 896), (9, 384), (8, 0), (7, 0), (6, 62), (5, 30), (4, 14), (3, 6), (2, 0), (1, 0), (0, 0)] (by kernel_rfl) (by kernel_rfl) ?_)
  simp (maxSteps := 500000) -implicitDefEqProofs only [go_sem, hL.idx hL0, rsA, hw]
  refine wC.useD ?_
  have hw0 := wrapS (i := 0) (by omega)
  have hst : ((cl.map rA).set i (.agg [(AVal.sc (Value.int IntKind.i64 (x2))), (AVal.sc (Value.int IntKind.i64 (1)))])) = (cl.set i (x2, 1)).map rA := by rw [List.map_set]; rfl
  simp (maxSteps := 500000) -implicitDefEqProofs only [go_sem, g, hy0, hie, hw, rA, hst]
  (repeat' first | ((first | refine vy1 ?_ ?_ | refine vy2 ?_ ?_ | refine vy3 ?_ ?_) <;> rintro ⟨hd, hq⟩ <;> first | (exfalso; omega) | simp (maxSteps := 500000) -implicitDefEqProofs only [go_sem, hd, hw0] | skip) | refine vzt ?_ | refine vzf ?_ | refine vsb ?_ | refine vzb ?_ | refine vzq ?_ | simp (maxSteps := 500000) -implicitDefEqProofs only [go_sem, hw0])
  refine ⟨1, by dsimp only; omega, ⟨by omega, ?_⟩, ?_⟩
  ·simp (maxSteps := 500000) -implicitDefEqProofs only [go_sem, hlt, hst]
  ·(repeat' (first | exact trivial | refine ⟨rfl, ?_⟩))
 ·obtain rfl : j = 1 := by omega
  rw [if_neg (by omega)] at g
  have d1 : decide ((1 : Int) < 1) = false := by decide
  simp (maxSteps := 500000) -implicitDefEqProofs only [go_sem, hL.len, hll]
  (repeat' first | ((first | refine vy1 ?_ ?_ | refine vy2 ?_ ?_ | refine vy3 ?_ ?_) <;> rintro ⟨hd, hq⟩ <;> first | (exfalso; omega) | simp (maxSteps := 500000) -implicitDefEqProofs only [go_sem, hd, d1] | skip) | refine vzt ?_ | refine vzf ?_ | refine vsb ?_ | refine vzb ?_ | refine vzq ?_ | simp (maxSteps := 500000) -implicitDefEqProofs only [go_sem, d1])
  obtain ⟨V, f1, f2⟩ := (show Gw 0 σ 2 (.slice 1 0 ((cl.set i (x2, 1)).map rA).length) ((cl.set i (x2, 1)).map rA) from .inr ⟨1, by omega, rfl, g⟩).frz (mapO_rA _) (n := 5)
  exact ⟨_, V, rfl, by rw [List.length_map, List.length_set] at f1; exact f1, f2⟩
def mid (P : Ev → AStore → Prop) (Q : SPred) : SPred
 | .normal, e, σ => P e σ
 | ex, e, σ => Q ex e σ
theorem mid_normal {P : Ev → AStore → Prop} {Q : SPred} {e : Ev} {σ : AStore} : mid P Q .normal e σ = P e σ := rfl
theorem Z_mid {E : Env} {n : Nat} {x y : Code} {Q : SPred} {e : Ev} {σ : AStore} (P : Ev → AStore → Prop) (h1 : Z E n x (mid P Q) e σ) (h2 : ∀ e σ, P e σ → V E n y Q e σ) : Z E n x (thenS (V E n y Q) Q) e σ := by
 intro hc he
 refine (h1 hc he).mono ?_
 rintro ex a σ ⟨e, h3, h4, h5⟩
 refine ⟨e, h3, h4, ?_⟩
 cases ex with
 | normal => exact h2 e σ h5
 | _ => exact h5
attribute [go_sem] mid_normal
theorem Z_forkE {E : Env} {n : Nat} {c : Code} {Q : SPred} {e0 : Ev} {e : AVal → Ev} {σ : AStore} {P : AVal → AStore → Prop} (h : ∀ x τ, P x τ → Z E n c Q (e x) τ)
  (hp : (∃ x, e0 = e x ∧ P x σ) ∨ ∃ b sz els x, σ.get b = some (.cells sz els) ∧ replE b sz els e0 = e x ∧ P x (replS b sz els σ)) : Z E n c Q e0 σ := by
 rcases hp with ⟨x, rfl, hx⟩ | ⟨b, sz, els, x, hg, he, hx⟩
 ·exact h x σ hx
 ·refine Z_freeze hg ?_
  rw [he]
  exact h x _ hx
theorem pts_ok {k l r : List Int} (h : checkP k l r) : ofOk k (ptsP k l r) := by
 by_cases hh : ofOk k (ptsP k l r)
 ·exact hh
 ·have := of_pts h
  rw [of_bad hh] at this
  simp at this
theorem ok_in {k : List Int} {cl : List (Int × Int)} (h : ofOk k cl) : ∀ x ∈ cl, in64 x.1 ∧ in64 x.2 := by
 intro x hx
 obtain ⟨i, hi, rfl⟩ := List.mem_iff_getElem.1 hx
 have := validR_b (h.2.2 i (by have := h.2.1; omega)).1
 rw [pcl_of (List.getElem?_eq_getElem hi)] at this
 exact ⟨⟨by omega, by omega⟩, ⟨by omega, by omega⟩⟩
set_option maxHeartbeats 8000000 in
theorem law4 {w : World} {K W R CL : AVal} {k l r : List Int} {cl : List (Int × Int)} {x : Int × Int} {c : Int × Bool × Bool × Int} {y : Int × Int} (h : IsCase K W R CL k l r cl x c) (hy : in64 y.1 ∧ in64 y.2) (haw : Gives (EE w) 6 [] fun v => v = (AVal.sc (Value.bool (true)))) :
  ACalls (EE w) 4 [caseA K W R CL x c, rA y] empty fun e _ => e = .ret (AVal.sc (Value.bool (true))) := by
 have lC := largeC (w := w) h
 obtain ⟨hK, hW, hR, hC, lk, lw, lr, lc, ic, ix, icn⟩ := h
 have kK := hK.fit
 have kW := hW.fit
 have kR := hR.fit
 have kC := hC.fit
 have cK := hK.cells
 have cW := hW.cells
 have cR := hR.cells
 have cC := hC.cells
 have iK := hK.isCell
 have iW := hW.isCell
 have iR := hR.isCell
 have iC := hC.isCell
 have sW := fun σ : AStore => hW.src (σ := σ)
 have sR := fun σ : AStore => hR.src (σ := σ)
 have d20 : decide ((2 : Int) = 0) = false := by decide
 obtain ⟨c1, c2, c3, c4⟩ := c
 obtain ⟨x1, x2⟩ := x
 obtain ⟨y1, y2⟩ := y
 simp only [caseA] at lC
 refine of_4 rfl rfl rfl (by kernel_rfl) ?_
 simp (maxSteps := 500000) -implicitDefEqProofs only [go_sem, caseA, rA, kK, kW, kR, kC, cK, cW, cR, cC, iK, iW, iR, iC]
 refine lC.use ?_
 cases hb : bigB k l r cl with
 | true =>
  (repeat' first | ((first | refine vy1 ?_ ?_ | refine vy2 ?_ ?_ | refine vy3 ?_ ?_) <;> rintro ⟨hd, hq⟩ <;> first | (exfalso; omega) | simp (maxSteps := 500000) -implicitDefEqProofs only [go_sem, hd] | skip) | refine vzt ?_ | refine vzf ?_ | refine vsb ?_ | refine vzb ?_ | refine vzq ?_ | simp (maxSteps := 500000) -implicitDefEqProofs only [go_sem])
  refine haw.use ?_
  rintro v rfl
  (repeat' first | ((first | refine vy1 ?_ ?_ | refine vy2 ?_ ?_ | refine vy3 ?_ ?_) <;> rintro ⟨hd, hq⟩ <;> first | (exfalso; omega) | simp (maxSteps := 500000) -implicitDefEqProofs only [go_sem, hd] | skip) | refine vzt ?_ | refine vzf ?_ | refine vsb ?_ | refine vzb ?_ | refine vzq ?_ | simp (maxSteps := 500000) -implicitDefEqProofs only [go_sem])
 | false =>
 simp only [bigB, Bool.or_eq_false_iff, decide_eq_false_iff_not, Nat.not_lt] at hb
 obtain ⟨b1, b2, b3, b4⟩ := hb
 have l1000 : ∀ {n : Nat}, n ≤ 40 → n ≤ 1000000 := fun h => by omega
 have oC1 := of1C (w := w) hK hC (l1000 b1) (l1000 b4) ic
 simp (maxSteps := 500000) -implicitDefEqProofs only [go_sem, kK, kW, kR, kC, cK, cW, cR, cC, iK, iW, iR, iC]
 (repeat' first | ((first | refine vy1 ?_ ?_ | refine vy2 ?_ ?_ | refine vy3 ?_ ?_) <;> rintro ⟨hd, hq⟩ <;> first | (exfalso; omega) | simp (maxSteps := 500000) -implicitDefEqProofs only [go_sem, hd, kK, kW, kR, kC, cK, cW, cR, cC, iK, iW, iR, iC] | skip) | refine vzt ?_ | refine vzf ?_ | refine vsb ?_ | refine vzb ?_ | refine vzq ?_ | simp (maxSteps := 500000) -implicitDefEqProofs only [go_sem, kK, kW, kR, kC, cK, cW, cR, cC, iK, iW, iR, iC])
 refine oC1.use ?_
 rintro _ ⟨W1, R1, rfl, hW1, hR1⟩
 by_cases hok : ofOk k cl
 case neg =>
  rw [of_bad hok] at hW1 hR1 ⊢
  dsimp only at hW1 hR1 ⊢
  have k1w := hW1.fit
  have k1r := hR1.fit
  have c1w := hW1.cells
  have c1r := hR1.cells
  have i1w := hW1.isCell
  have i1r := hR1.isCell
  (repeat' first | ((first | refine vy1 ?_ ?_ | refine vy2 ?_ ?_ | refine vy3 ?_ ?_) <;> rintro ⟨hd, hq⟩ <;> first | (exfalso; omega) | simp (maxSteps := 500000) -implicitDefEqProofs only [go_sem, hd, rgA, d20, kK, kW, kR, kC, cK, cW, cR, cC, iK, iW, iR, iC, k1w, k1r, c1w, c1r, i1w, i1r] | skip) | refine vzt ?_ | refine vzf ?_ | refine vsb ?_ | refine vzb ?_ | refine vzq ?_ | simp (maxSteps := 500000) -implicitDefEqProofs only [go_sem, rgA, d20, kK, kW, kR, kC, cK, cW, cR, cC, iK, iW, iR, iC, k1w, k1r, c1w, c1r, i1w, i1r])
  refine haw.use ?_
  rintro v rfl
  (repeat' first | ((first | refine vy1 ?_ ?_ | refine vy2 ?_ ?_ | refine vy3 ?_ ?_) <;> rintro ⟨hd, hq⟩ <;> first | (exfalso; omega) | simp (maxSteps := 500000) -implicitDefEqProofs only [go_sem, hd] | skip) | refine vzt ?_ | refine vzf ?_ | refine vsb ?_ | refine vzb ?_ | refine vzq ?_ | simp (maxSteps := 500000) -implicitDefEqProofs only [go_sem])
  try rfl
 obtain ⟨l1, r1, hof⟩ : ∃ l1 r1, ofP k cl = ((l1, r1), 0) := ⟨_, _, of_good hok⟩
 rw [hof] at hW1 hR1 ⊢
 dsimp only at hW1 hR1 ⊢
 have k1w := hW1.fit
 have k1r := hR1.fit
 have c1w := hW1.cells
 have c1r := hR1.cells
 have i1w := hW1.isCell
 have i1r := hR1.isCell
 have hlen : cl.length = k.length := hok.2.1
 have hv0 : ∀ i, i < cl.length → 0 < (pcl cl i).2 := fun i hi => (validR_b (hok.2.2 i (by omega)).1).1
 obtain ⟨D, X, _, hD, hX, _⟩ := one_den (cl := cl) (b := (0, 1)) hv0 (by decide)
 obtain ⟨rg, nn⟩ := of_regL hok hD fun i hi => hX i (by omega)
 rw [hof] at rg
 dsimp only at rg
 have hck : checkP k l1 r1 := regL_check hok.1 hD nn rg
 have e1 : l1.length = k.length := rg.1
 have e2 : r1.length = k.length := rg.2.1
 have pC := pointC (w := w) hK hW1 hR1 (l1000 b1) (by omega) (by omega)
 rw [check_good hck] at pC
 (repeat' first | ((first | refine vy1 ?_ ?_ | refine vy2 ?_ ?_ | refine vy3 ?_ ?_) <;> rintro ⟨hd, hq⟩ <;> first | (exfalso; omega) | simp (maxSteps := 500000) -implicitDefEqProofs only [go_sem, hd, rgA, kK, kW, kR, kC, cK, cW, cR, cC, iK, iW, iR, iC, k1w, k1r, c1w, c1r, i1w, i1r] | skip) | refine vzt ?_ | refine vzf ?_ | refine vsb ?_ | refine vzb ?_ | refine vzq ?_ | simp (maxSteps := 500000) -implicitDefEqProofs only [go_sem, rgA, kK, kW, kR, kC, cK, cW, cR, cC, iK, iW, iR, iC, k1w, k1r, c1w, c1r, i1w, i1r])
 refine pC.use ?_
 rintro _ ⟨V, rfl, hV⟩
 have kV := hV.fit
 have cV := hV.cells
 have iV := hV.isCell
 have pok := pts_ok hck
 have oC2 := of1C (w := w) hK hV (l1000 b1) (by have := pok.2.1; omega) (ok_in pok)
 rw [of_pts hck] at oC2
 (repeat' first | ((first | refine vy1 ?_ ?_ | refine vy2 ?_ ?_ | refine vy3 ?_ ?_) <;> rintro ⟨hd, hq⟩ <;> first | (exfalso; omega) | simp (maxSteps := 500000) -implicitDefEqProofs only [go_sem, hd, rgA, kK, kW, kR, kC, cK, cW, cR, cC, iK, iW, iR, iC, k1w, k1r, c1w, c1r, i1w, i1r, kV, cV, iV] | skip) | refine vzt ?_ | refine vzf ?_ | refine vsb ?_ | refine vzb ?_ | refine vzq ?_ | simp (maxSteps := 500000) -implicitDefEqProofs only [go_sem, rgA, kK, kW, kR, kC, cK, cW, cR, cC, iK, iW, iR, iC, k1w, k1r, c1w, c1r, i1w, i1r, kV, cV, iV])
 refine oC2.use ?_
 rintro _ ⟨W2, R2, rfl, hW2, hR2⟩
 dsimp only at hW2 hR2
 have k2w := hW2.fit
 have k2r := hR2.fit
 have c2w := hW2.cells
 have c2r := hR2.cells
 have i2w := hW2.isCell
 have i2r := hR2.isCell
 have kC1 := checkC (w := w) hK hW1 hR1 (l1000 b1) (by omega) (by omega)
 rw [check_good hck] at kC1
 have sC := sameC (w := w) hW1 hR1 hW2 hR2 (by omega) (by omega) (by omega) (by omega)
 rw [same_dec, same_dec, Bool.and_self] at sC
 simp only [rgA] at kC1 sC
 have e1' : ((l1.length : Nat) : Int) = k.length := by omega
 (repeat' first | ((first | refine vy1 ?_ ?_ | refine vy2 ?_ ?_ | refine vy3 ?_ ?_) <;> rintro ⟨hd, hq⟩ <;> first | (exfalso; omega) | simp (maxSteps := 500000) -implicitDefEqProofs only [go_sem, hd, rgA, kK, kW, kR, kC, cK, cW, cR, cC, iK, iW, iR, iC, k1w, k1r, c1w, c1r, i1w, i1r, k2w, k2r, c2w, c2r, i2w, i2r, kV, cV, iV] | skip) | refine vzt ?_ | refine vzf ?_ | refine vsb ?_ | refine vzb ?_ | refine vzq ?_ | simp (maxSteps := 500000) -implicitDefEqProofs only [go_sem, rgA, kK, kW, kR, kC, cK, cW, cR, cC, iK, iW, iR, iC, k1w, k1r, c1w, c1r, i1w, i1r, k2w, k2r, c2w, c2r, i2w, i2r, kV, cV, iV])
 refine kC1.use ?_
 simp (maxSteps := 500000) -implicitDefEqProofs only [go_sem, kK, kW, kR, kC, cK, cW, cR, cC, iK, iW, iR, iC, k1w, k1r, c1w, c1r, i1w, i1r, k2w, k2r, c2w, c2r, i2w, i2r, hW1.len, hK.len, e1, same_dec]
 refine sC.use ?_
 (repeat' (first | refine vzf ?_ | simp (maxSteps := 500000) -implicitDefEqProofs only [go_sem, kK, kW, kR, kC, cK, cW, cR, cC, iK, iW, iR, iC, k1w, k1r, c1w, c1r, i1w, i1r, k2w, k2r, c2w, c2r, i2w, i2r, same_dec]))
 have fC := fits1C (w := w) (c := (c1, c2, c3, c4)) hK hW1 hR1 (l1000 b1) (by omega) (by omega) icn.1 icn.2
 refine fC.use ?_
 simp (maxSteps := 500000) -implicitDefEqProofs only [go_sem, kK, kW, kR, kC, cK, cW, cR, cC, iK, iW, iR, iC, k1w, k1r, c1w, c1r, i1w, i1r]
 refine Z_mid (fun e σ => look? e 2 = some (.ptr 0 0 0) ∧ look? e 3 = some (.ptr 1 0 0) ∧ look? e 4 = some (AVal.sc (Value.bool (false))) ∧ look? e 5 = some (.ptr 2 0 0) ∧ σ.get 0 = some (.cells 10 [.agg [K, W, R, CL, (AVal.sc (Value.int IntKind.i64 (x1))), (AVal.sc (Value.int IntKind.i64 (x2))), (AVal.sc (Value.int IntKind.i64 (c1))), (AVal.sc (Value.bool (c2))), (AVal.sc (Value.bool (c3))), (AVal.sc (Value.int IntKind.i64 (c4)))]]) ∧ σ.get 1 = some (.cells 2 [.agg [(AVal.sc (Value.int IntKind.i64 (y1))), (AVal.sc (Value.int IntKind.i64 (y2)))]]) ∧ σ.get 2 = some (.cells 2 [.agg [W1, R1]])) ?_ ?_
 ·by_cases hfit : fitOk k l1 r1 (c1, c2, c3, c4)
  case neg =>
   rw [fit_bad hfit]
   (repeat' first | ((first | refine vy1 ?_ ?_ | refine vy2 ?_ ?_ | refine vy3 ?_ ?_) <;> rintro ⟨hd, hq⟩ <;> first | (exfalso; omega) | simp (maxSteps := 500000) -implicitDefEqProofs only [go_sem, hd, d20] | skip) | refine vzt ?_ | refine vzf ?_ | refine vsb ?_ | refine vzb ?_ | refine vzq ?_ | simp (maxSteps := 500000) -implicitDefEqProofs only [go_sem, d20])
  obtain ⟨-, q1, q2, q3, q4⟩ := hfit
  dsimp only at q1 q2 q3 q4
  obtain ⟨i, rfl⟩ : ∃ i : Nat, c1 = (i : Int) + 1 := ⟨(c1 - 1).toNat, by omega⟩
  have hik : i < k.length := by omega
  rw [show ((i : Int) + 1 - 1).toNat = i by omega] at q4
  have qk := q4 _ (at0_get hik)
  rw [fit_good (c := ((i : Int) + 1, c2, c3, c4)) hck rfl (at0_get hik) (at0_get (by omega)) (at0_get (by omega)) q3 qk]
  obtain ⟨hvi, h0i⟩ := hok.2.2 i hik
  obtain ⟨g1, g2⟩ := ok_in hok _ (List.mem_of_getElem? (pcl_get (show i < cl.length by omega)))
  have mC := meetsC (w := w) (pcl cl i) ((i : Int) + 1, c2, c3, c4) g1 g2 icn.2
  rw [fits_meets (c := ((i : Int) + 1, c2, c3, c4)) rg hD hik (nn i hik) (fine_at hok.1 hik).1 hvi (hX i (by omega)) q3 qk (fine_at hok.1 hik).2] at mC
  have hx' : (cl.map rA)[i]? = some (rA (pcl cl i)) := by rw [List.getElem?_map, pcl_get (by omega)]; rfl
  obtain ⟨⟨a1, a2⟩, ha⟩ : ∃ a, a = pcl cl i := ⟨_, rfl⟩
  rw [← ha] at mC hx'
  simp only [rA, cnA] at mC hx'
  generalize fitsB ((i : Int) + 1, c2, c3, c4) (at0 l1 i) (at0 r1 i) = fb at *
  have d1 : decide ((i : Int) + 1 < 1) = false := dcf (by omega)
  have d2 : decide ((cl.length : Int) < (i : Int) + 1) = false := dcf (by omega)
  have d00 : decide ((0 : Int) = 0) = true := by decide
  have hw : IntKind.i64.wrap ((i : Int) + 1 - 1) = (i : Int) := by rw [wrap64 (by omega) (by omega)]; omega
  simp (maxSteps := 500000) -implicitDefEqProofs only [go_sem, d00]
  (repeat' (first | refine vzt ?_ | simp (maxSteps := 500000) -implicitDefEqProofs only [go_sem]))
  ((try (refine Z_seq ?_; (try simp (maxSteps := 500000) -implicitDefEqProofs only [go_sem]))); refine Z_draw (by kernel_rfl) [0, 1, 2, 3, 4, 5, 6, 7, 8, 9, 10, 11, 12, 13, 14, 15, 16, 17, 18, 19, 20, 21, 22, 23, 24, 25, 26, 27] [(27, 134217727), (26, 67108863), (25, 33538047), (24, 8404991), (23, 16383), (22, 4177919), (21, 2080767), (20, 933887), (19, 409599), (18, 147455), (17, 16383), (16, 49151), (15, 16383), (14, 16383), (13, 8191), (12, 4095), (11, 2047), (10, 799), (9, 287), (8, 31), (7, 127), (6, 63), (5, 31), (4, 15), (3, 7), (2, 3), (1, 1), (0, 0)] (by kernel_rfl) (by kernel_rfl) ?_)
  simp (maxSteps := 500000) -implicitDefEqProofs only [go_sem, kK, kW, kR, kC, cK, cW, cR, cC, iK, iW, iR, iC, d1, d2, hC.len, hC.idx hx', hw]
  refine mC.useD ?_
  simp (maxSteps := 500000) -implicitDefEqProofs only [go_sem, beq_self_eq_true]
  (repeat' first | ((first | refine vy1 ?_ ?_ | refine vy2 ?_ ?_ | refine vy3 ?_ ?_) <;> rintro ⟨hd, hq⟩ <;> first | (exfalso; omega) | simp (maxSteps := 500000) -implicitDefEqProofs only [go_sem, hd] | skip) | refine vzt ?_ | refine vzf ?_ | refine vsb ?_ | refine vzb ?_ | refine vzq ?_ | simp (maxSteps := 500000) -implicitDefEqProofs only [go_sem])
 rintro e σ ⟨t2, t3, t4, t5, g0, g1, g2⟩
 have n2 := AStore.lt_of_get g2
 have rC := reset1C (w := w) (x := (x1, x2)) hK hW1 hR1 (l1000 b1) (by omega) (by omega) ix.1 ix.2
 obtain ⟨p, hp⟩ : ∃ p, p = σ.next := ⟨_, rfl⟩
 have p0 : ¬ 0 = p := by omega
 have p1 : ¬ 1 = p := by omega
 have p2 : ¬ 2 = p := by omega
 simp (maxSteps := 500000) -implicitDefEqProofs only [go_sem, t2, t3, t4, t5, g0, g1, g2, kK, kW, kR, kC, cK, cW, cR, cC, iK, iW, iR, iC, k1w, k1r, c1w, c1r, i1w, i1r]
 refine rC.use ?_
 rintro _ ⟨W3, R3, rfl, hW3, hR3⟩
 have k3w := hW3.fit
 have k3r := hR3.fit
 have c3w := hW3.cells
 have c3r := hR3.cells
 have i3w := hW3.isCell
 have i3r := hR3.isCell
 obtain ⟨σ3, hs3⟩ : ∃ s, s = (σ.alloc (.cells 2 [.agg [(AVal.sc (Value.slice none 0 0)), (AVal.sc (Value.slice none 0 0))]])).set p (.cells 2 [.agg [W3, R3]]) := ⟨_, rfl⟩
 have g03 : σ3.get 0 = some (.cells 10 [.agg [K, W, R, CL, (AVal.sc (Value.int IntKind.i64 (x1))), (AVal.sc (Value.int IntKind.i64 (x2))), (AVal.sc (Value.int IntKind.i64 (c1))), (AVal.sc (Value.bool (c2))), (AVal.sc (Value.bool (c3))), (AVal.sc (Value.int IntKind.i64 (c4)))]]) := by rw [hs3]; exact get_set_ne (get_alloc_old g0) p0
 have g13 : σ3.get 1 = some (.cells 2 [.agg [(AVal.sc (Value.int IntKind.i64 (y1))), (AVal.sc (Value.int IntKind.i64 (y2)))]]) := by rw [hs3]; exact get_set_ne (get_alloc_old g1) p1
 have g23 : σ3.get 2 = some (.cells 2 [.agg [W1, R1]]) := by rw [hs3]; exact get_set_ne (get_alloc_old g2) p2
 have gp3 : σ3.get p = some (.cells 2 [.agg [W3, R3]]) := by rw [hs3, AStore.get_set, if_pos ⟨rfl, by rw [alloc_next]; omega⟩]
 clear g0 g1 g2
 simp (maxSteps := 500000) -implicitDefEqProofs only [go_sem, rgA, ← hp, ← hs3, t2, t3, t4, t5, kK, kW, kR, kC, cK, cW, cR, cC, iK, iW, iR, iC, k3w, k3r, c3w, c3r, i3w, i3r]
 refine Z_mid (fun e σ => look? e 2 = some (.ptr 0 0 0) ∧ look? e 3 = some (.ptr 1 0 0) ∧ look? e 4 = some (AVal.sc (Value.bool (false))) ∧ look? e 5 = some (.ptr 2 0 0) ∧ σ.get 0 = some (.cells 10 [.agg [K, W, R, CL, (AVal.sc (Value.int IntKind.i64 (x1))), (AVal.sc (Value.int IntKind.i64 (x2))), (AVal.sc (Value.int IntKind.i64 (c1))), (AVal.sc (Value.bool (c2))), (AVal.sc (Value.bool (c3))), (AVal.sc (Value.int IntKind.i64 (c4)))]]) ∧ σ.get 1 = some (.cells 2 [.agg [(AVal.sc (Value.int IntKind.i64 (y1))), (AVal.sc (Value.int IntKind.i64 (y2)))]]) ∧ σ.get 2 = some (.cells 2 [.agg [W1, R1]])) ?_ ?_
 ·by_cases hrs : rstOk k l1 r1 (x1, x2)
  case neg =>
   rw [rst_bad hrs]
   (repeat' first | ((first | refine vy1 ?_ ?_ | refine vy2 ?_ ?_ | refine vy3 ?_ ?_) <;> rintro ⟨hd, hq⟩ <;> first | (exfalso; omega) | simp (maxSteps := 500000) -implicitDefEqProofs only [go_sem, hd, d20, t2, t3, t4, t5, g03, g13, g23] | skip) | refine vzt ?_ | refine vzf ?_ | refine vsb ?_ | refine vzb ?_ | refine vzq ?_ | simp (maxSteps := 500000) -implicitDefEqProofs only [go_sem, d20, t2, t3, t4, t5, g03, g13, g23])
  obtain ⟨-, q1, q2, q3, q4⟩ := hrs
  dsimp only at q1 q2 q3 q4
  obtain ⟨i, rfl⟩ : ∃ i : Nat, x1 = (i : Int) + 1 := ⟨(x1 - 1).toNat, by omega⟩
  have hik : i < k.length := by omega
  have hor := of_reset (to := x2) hok rg hD hik q3 q4 (fun j hj => hX j (by omega))
  rw [rst_good hck hik q3 q4] at hW3 hR3 ⊢
  dsimp only at hW3 hR3 ⊢
  have hok2 : ofOk k (cl.set i (x2, 1)) := by
   by_cases hh : ofOk k (cl.set i (x2, 1))
   ·exact hh
   ·rw [of_bad hh] at hor; simp at hor
  have d1 : decide ((i : Int) + 1 < 1) = false := dcf (by omega)
  have d2 : decide ((cl.length : Int) < (i : Int) + 1) = false := dcf (by omega)
  have d00 : decide ((0 : Int) = 0) = true := by decide
  simp (maxSteps := 500000) -implicitDefEqProofs only [go_sem, d00]
  refine vzt ?_
  simp (maxSteps := 500000) -implicitDefEqProofs only [go_sem, t2, t3, t4, t5, g03, kK, kW, kR, kC, cK, cW, cR, cC, iK, iW, iR, iC, d1, d2, hC.len]
  (repeat' (first | refine vzf ?_ | simp (maxSteps := 500000) -implicitDefEqProofs only [go_sem]))
  have bC := behindC (w := w) (x := ((i : Int) + 1, x2)) (L := .data 2 true [rsA ((i : Int) + 1, x2)]) hC (.inr ⟨_, rfl⟩) (by dsimp only; omega) (by dsimp only; omega) (by omega)
  rw [show (((i : Int) + 1, x2).1 - 1).toNat = i by dsimp only; omega] at bC
  dsimp only at bC
  simp only [rsA] at bC
  obtain ⟨p', hp'⟩ : ∃ p, p = σ3.next := ⟨_, rfl⟩
  have n3 := AStore.lt_of_get gp3
  have pp : ¬ p = p' := by omega
  have pp0 : ¬ 0 = p' := by omega
  ((try (refine Z_seq ?_; (try simp (maxSteps := 500000) -implicitDefEqProofs only [go_sem]))); refine Z_drawT (by kernel_rfl) [0, 1, 2, 3, 4, 5, 6, 7, 8, 9, 10, 11, 12, 13, 14] [(14, 16383), (13, 6143), (12, 0), (11, 1023), (10, 1023), (9, 511), (8, 255), (7, 124), (6, 48), (5, 16), (4, 0), (3, 4), (2, 0), (1, 1), (0, 0)] (.one 0 (.one 1 (.one 2 (.one 3 (.one 4 (.one 5 (.one 6 (.two 7 (.two 8 (.one 9 (.one 10 (.one 11 (.one 12 (.one 13 (.one 14 .fin)))))) 12 (.one 8 (.one 9 (.one 10 (.one 11 (.one 13 (.one 14 .fin))))))) 12 (.one 7 (.one 8 (.one 9 (.one 10 (.one 11 (.one 13 (.one 14 .fin))))))))))))))) (by kernel_rfl) (by kernel_rfl) (by kernel_rfl) ?_)
  simp (maxSteps := 500000) -implicitDefEqProofs only [go_sem, t2, t3, t4, t5, g03, kK, kW, kR, kC, cK, cW, cR, cC, iK, iW, iR, iC, ← hp', pp0]
  have pp1 : ¬ 1 = p' := by omega
  have pp2 : ¬ 2 = p' := by omega
  have pp' : ¬ p' = p := by omega
  have n3' : p < p' := by omega
  have s1 : (rsL k l1 i x2).length ≤ 1000000 := by simp [rsL]; omega
  have s2 : (rsR r1 i).length ≤ 1000000 := by unfold rsR; split <;> simp <;> omega
  refine ⟨bC.useD ?_, ?_⟩
  ·rintro BV hBV
   have kB := hBV.fit
   have cB := hBV.cells
   have iB := hBV.isCell
   have oC3 := of1C (w := w) hK hBV (l1000 b1) (by rw [List.length_set]; omega) (ok_in hok2)
   rw [hor] at oC3
   dsimp only at oC3
   simp (maxSteps := 500000) -implicitDefEqProofs only [go_sem, t2, t3, t4, t5, g03, g13, g23, gp3, kK, kW, kR, kC, cK, cW, cR, cC, iK, iW, iR, iC, k3w, k3r, c3w, c3r, i3w, i3r, ← hp', pp0, pp1, pp2, pp, pp', n3', rgA, kB, cB, iB]
   refine ⟨oC3.useD ?_, oC3.useE ?_⟩
   ·rintro _ ⟨W4, R4, rfl, hW4, hR4⟩
    have k4w := hW4.fit
    have k4r := hR4.fit
    have c4w := hW4.cells
    have c4r := hR4.cells
    have i4w := hW4.isCell
    have i4r := hR4.isCell
    have sC4 := sameC (w := w) hW3 hR3 hW4 hR4 s1 s2 s1 s2
    rw [same_dec, same_dec, Bool.and_self] at sC4
    simp only [rgA] at sC4
    simp (maxSteps := 500000) -implicitDefEqProofs only [go_sem, t2, t3, t4, t5, g03, g13, g23, gp3, kK, kW, kR, kC, cK, cW, cR, cC, iK, iW, iR, iC, k3w, k3r, c3w, c3r, i3w, i3r, ← hp', pp0, pp1, pp2, pp, pp', n3', rgA, k4w, k4r, c4w, c4r, i4w, i4r]
    (repeat' (first | refine sC4.use ?_ | simp (maxSteps := 500000) -implicitDefEqProofs only [go_sem, t2, t3, t4, t5, g03, g13, g23, gp3, kK, kW, kR, kC, cK, cW, cR, cC, iK, iW, iR, iC, k3w, k3r, c3w, c3r, i3w, i3r, ← hp', pp0, pp1, pp2, pp, pp', n3', rgA, k4w, k4r, c4w, c4r, i4w, i4r]))
    (repeat' first | ((first | refine vy1 ?_ ?_ | refine vy2 ?_ ?_ | refine vy3 ?_ ?_) <;> rintro ⟨hd, hq⟩ <;> first | (exfalso; omega) | simp (maxSteps := 500000) -implicitDefEqProofs only [go_sem, hd, t2, t3, t4, t5, g03, g13, g23, gp3, kK, kW, kR, kC, cK, cW, cR, cC, iK, iW, iR, iC, k3w, k3r, c3w, c3r, i3w, i3r, ← hp', pp0, pp1, pp2, pp, pp', n3', rgA, k4w, k4r, c4w, c4r, i4w, i4r] | skip) | refine vzt ?_ | refine vzf ?_ | refine vsb ?_ | refine vzb ?_ | refine vzq ?_ | simp (maxSteps := 500000) -implicitDefEqProofs only [go_sem, t2, t3, t4, t5, g03, g13, g23, gp3, kK, kW, kR, kC, cK, cW, cR, cC, iK, iW, iR, iC, k3w, k3r, c3w, c3r, i3w, i3r, ← hp', pp0, pp1, pp2, pp, pp', n3', rgA, k4w, k4r, c4w, c4r, i4w, i4r])
   ·rintro _ ⟨W4, R4, rfl, hW4, hR4⟩
    have k4w := hW4.fit
    have k4r := hR4.fit
    have c4w := hW4.cells
    have c4r := hR4.cells
    have i4w := hW4.isCell
    have i4r := hR4.isCell
    have sC4 := sameC (w := w) hW3 hR3 hW4 hR4 s1 s2 s1 s2
    rw [same_dec, same_dec, Bool.and_self] at sC4
    simp only [rgA] at sC4
    simp (maxSteps := 500000) -implicitDefEqProofs only [go_sem, t2, t3, t4, t5, g03, g13, g23, gp3, kK, kW, kR, kC, cK, cW, cR, cC, iK, iW, iR, iC, k3w, k3r, c3w, c3r, i3w, i3r, ← hp', pp0, pp1, pp2, pp, pp', n3', rgA, k4w, k4r, c4w, c4r, i4w, i4r]
    (repeat' (first | refine sC4.use ?_ | simp (maxSteps := 500000) -implicitDefEqProofs only [go_sem, t2, t3, t4, t5, g03, g13, g23, gp3, kK, kW, kR, kC, cK, cW, cR, cC, iK, iW, iR, iC, k3w, k3r, c3w, c3r, i3w, i3r, ← hp', pp0, pp1, pp2, pp, pp', n3', rgA, k4w, k4r, c4w, c4r, i4w, i4r]))
    (repeat' first | ((first | refine vy1 ?_ ?_ | refine vy2 ?_ ?_ | refine vy3 ?_ ?_) <;> rintro ⟨hd, hq⟩ <;> first | (exfalso; omega) | simp (maxSteps := 500000) -implicitDefEqProofs only [go_sem, hd, t2, t3, t4, t5, g03, g13, g23, gp3, kK, kW, kR, kC, cK, cW, cR, cC, iK, iW, iR, iC, k3w, k3r, c3w, c3r, i3w, i3r, ← hp', pp0, pp1, pp2, pp, pp', n3', rgA, k4w, k4r, c4w, c4r, i4w, i4r] | skip) | refine vzt ?_ | refine vzf ?_ | refine vsb ?_ | refine vzb ?_ | refine vzq ?_ | simp (maxSteps := 500000) -implicitDefEqProofs only [go_sem, t2, t3, t4, t5, g03, g13, g23, gp3, kK, kW, kR, kC, cK, cW, cR, cC, iK, iW, iR, iC, k3w, k3r, c3w, c3r, i3w, i3r, ← hp', pp0, pp1, pp2, pp, pp', n3', rgA, k4w, k4r, c4w, c4r, i4w, i4r])
  ·refine bC.useE ?_
   rintro BV hBV
   have kB := hBV.fit
   have cB := hBV.cells
   have iB := hBV.isCell
   have oC3 := of1C (w := w) hK hBV (l1000 b1) (by rw [List.length_set]; omega) (ok_in hok2)
   rw [hor] at oC3
   dsimp only at oC3
   simp (maxSteps := 500000) -implicitDefEqProofs only [go_sem, t2, t3, t4, t5, g03, g13, g23, gp3, kK, kW, kR, kC, cK, cW, cR, cC, iK, iW, iR, iC, k3w, k3r, c3w, c3r, i3w, i3r, ← hp', pp0, pp1, pp2, pp, pp', n3', rgA, kB, cB, iB]
   refine oC3.useE ?_
   rintro _ ⟨W4, R4, rfl, hW4, hR4⟩
   have k4w := hW4.fit
   have k4r := hR4.fit
   have c4w := hW4.cells
   have c4r := hR4.cells
   have i4w := hW4.isCell
   have i4r := hR4.isCell
   have sC4 := sameC (w := w) hW3 hR3 hW4 hR4 s1 s2 s1 s2
   rw [same_dec, same_dec, Bool.and_self] at sC4
   simp only [rgA] at sC4
   simp (maxSteps := 500000) -implicitDefEqProofs only [go_sem, t2, t3, t4, t5, g03, g13, g23, gp3, kK, kW, kR, kC, cK, cW, cR, cC, iK, iW, iR, iC, k3w, k3r, c3w, c3r, i3w, i3r, ← hp', pp0, pp1, pp2, pp, pp', n3', rgA, k4w, k4r, c4w, c4r, i4w, i4r]
   (repeat' (first | refine sC4.use ?_ | simp (maxSteps := 500000) -implicitDefEqProofs only [go_sem, t2, t3, t4, t5, g03, g13, g23, gp3, kK, kW, kR, kC, cK, cW, cR, cC, iK, iW, iR, iC, k3w, k3r, c3w, c3r, i3w, i3r, ← hp', pp0, pp1, pp2, pp, pp', n3', rgA, k4w, k4r, c4w, c4r, i4w, i4r]))
   (repeat' first | ((first | refine vy1 ?_ ?_ | refine vy2 ?_ ?_ | refine vy3 ?_ ?_) <;> rintro ⟨hd, hq⟩ <;> first | (exfalso; omega) | simp (maxSteps := 500000) -implicitDefEqProofs only [go_sem, hd, t2, t3, t4, t5, g03, g13, g23, gp3, kK, kW, kR, kC, cK, cW, cR, cC, iK, iW, iR, iC, k3w, k3r, c3w, c3r, i3w, i3r, ← hp', pp0, pp1, pp2, pp, pp', n3', rgA, k4w, k4r, c4w, c4r, i4w, i4r] | skip) | refine vzt ?_ | refine vzf ?_ | refine vsb ?_ | refine vzb ?_ | refine vzq ?_ | simp (maxSteps := 500000) -implicitDefEqProofs only [go_sem, t2, t3, t4, t5, g03, g13, g23, gp3, kK, kW, kR, kC, cK, cW, cR, cC, iK, iW, iR, iC, k3w, k3r, c3w, c3r, i3w, i3r, ← hp', pp0, pp1, pp2, pp, pp', n3', rgA, k4w, k4r, c4w, c4r, i4w, i4r])
 rintro e σ ⟨t2, t3, t4, t5, g0, g1, g2⟩
 have vC := rvalidC (w := w) (y1, y2) hy.1 hy.2
 simp only [rA] at vC
 simp (maxSteps := 500000) -implicitDefEqProofs only [go_sem, t2, t3, t4, t5, g0, g1, g2, kK, kW, kR, kC, cK, cW, cR, cC, iK, iW, iR, iC]
 refine vC.use ?_
 by_cases hv : validR (y1, y2) = true
 case neg =>
  have hv' : validR (y1, y2) = false := by simpa using hv
  rw [hv']
  (repeat' first | ((first | refine vy1 ?_ ?_ | refine vy2 ?_ ?_ | refine vy3 ?_ ?_) <;> rintro ⟨hd, hq⟩ <;> first | (exfalso; omega) | simp (maxSteps := 500000) -implicitDefEqProofs only [go_sem, hd, t2, t3, t4, t5, g0, g1, g2] | skip) | refine vzt ?_ | refine vzf ?_ | refine vsb ?_ | refine vzb ?_ | refine vzq ?_ | simp (maxSteps := 500000) -implicitDefEqProofs only [go_sem, t2, t3, t4, t5, g0, g1, g2])
  refine haw.use ?_
  rintro v rfl
  (repeat' first | ((first | refine vy1 ?_ ?_ | refine vy2 ?_ ?_ | refine vy3 ?_ ?_) <;> rintro ⟨hd, hq⟩ <;> first | (exfalso; omega) | simp (maxSteps := 500000) -implicitDefEqProofs only [go_sem, hd] | skip) | refine vzt ?_ | refine vzf ?_ | refine vsb ?_ | refine vzb ?_ | refine vzq ?_ | simp (maxSteps := 500000) -implicitDefEqProofs only [go_sem])
 rw [hv]
 by_cases hn : y1 < 0
 ·(repeat' first | ((first | refine vy1 ?_ ?_ | refine vy2 ?_ ?_ | refine vy3 ?_ ?_) <;> rintro ⟨hd, hq⟩ <;> first | (exfalso; omega) | simp (maxSteps := 500000) -implicitDefEqProofs only [go_sem, hd, t2, t3, t4, t5, g0, g1, g2, dct hn] | skip) | refine vzt ?_ | refine vzf ?_ | refine vsb ?_ | refine vzb ?_ | refine vzq ?_ | simp (maxSteps := 500000) -implicitDefEqProofs only [go_sem, t2, t3, t4, t5, g0, g1, g2, dct hn])
  refine haw.use ?_
  rintro v rfl
  (repeat' first | ((first | refine vy1 ?_ ?_ | refine vy2 ?_ ?_ | refine vy3 ?_ ?_) <;> rintro ⟨hd, hq⟩ <;> first | (exfalso; omega) | simp (maxSteps := 500000) -implicitDefEqProofs only [go_sem, hd] | skip) | refine vzt ?_ | refine vzf ?_ | refine vsb ?_ | refine vzb ?_ | refine vzq ?_ | simp (maxSteps := 500000) -implicitDefEqProofs only [go_sem])
 clear hX rg nn hD
 obtain ⟨D, X, B, hD, hX, hB⟩ := one_den (cl := cl) (b := (y1, y2)) hv0 (validR_b hv).1
 obtain ⟨rg, nn⟩ := of_regL hok hD fun i hi => hX i (by omega)
 rw [hof] at rg
 dsimp only at rg
 have hB0 : 0 ≤ B := by
  dsimp only at hB
  have h2 := (validR_b hv).1
  dsimp only at h2
  rcases Int.lt_or_le B 0 with h' | h'
  ·have a1 := Int.mul_nonneg (show 0 ≤ y1 by omega) (show 0 ≤ D by omega)
   have a2 := Int.mul_neg_of_neg_of_pos h' h2
   omega
  ·exact h'
 obtain ⟨f, hf⟩ : ∃ f : Nat → Int × Int, f = fun j => (addR (pcl cl j) (y1, y2)).1 := ⟨_, rfl⟩
 (repeat' first | ((first | refine vy1 ?_ ?_ | refine vy2 ?_ ?_ | refine vy3 ?_ ?_) <;> rintro ⟨hd, hq⟩ <;> first | (exfalso; omega) | simp (maxSteps := 500000) -implicitDefEqProofs only [go_sem, hd, t2, t3, t4, t5, g0, g1, g2, dcf hn] | skip) | refine vzt ?_ | refine vzf ?_ | refine vsb ?_ | refine vzb ?_ | refine vzq ?_ | simp (maxSteps := 500000) -implicitDefEqProofs only [go_sem, t2, t3, t4, t5, g0, g1, g2, dcf hn])
 (first | refine Z_block_loop (ι := Nat × AVal) (fun s => [(2, .ptr 0 0 0), (3, .ptr 1 0 0), (4, (AVal.sc (Value.bool (false)))), (5, .ptr 2 0 0), (16, s.2), (17, (AVal.sc (Value.int IntKind.i64 (s.1))))]) (fun s σ => s.1 ≤ cl.length ∧ (∀ j, j < s.1 → addR (pcl cl j) (y1, y2) = (f j, 0)) ∧ σ.get 0 = some (.cells 10 [.agg [K, W, R, CL, (AVal.sc (Value.int IntKind.i64 (x1))), (AVal.sc (Value.int IntKind.i64 (x2))), (AVal.sc (Value.int IntKind.i64 (c1))), (AVal.sc (Value.bool (c2))), (AVal.sc (Value.bool (c3))), (AVal.sc (Value.int IntKind.i64 (c4)))]]) ∧ σ.get 1 = some (.cells 2 [.agg [(AVal.sc (Value.int IntKind.i64 (y1))), (AVal.sc (Value.int IntKind.i64 (y2)))]]) ∧ σ.get 2 = some (.cells 2 [.agg [W1, R1]]) ∧ Gw 3 σ 2 s.2 (((List.range s.1).map f).map rA)) (fun s => cl.length - s.1) (fun _ => rfl) (0, (AVal.sc (Value.slice none 0 0))) ?_ ?_ ?_ | refine Z_seq_loop (ι := Nat × AVal) (fun s => [(2, .ptr 0 0 0), (3, .ptr 1 0 0), (4, (AVal.sc (Value.bool (false)))), (5, .ptr 2 0 0), (16, s.2), (17, (AVal.sc (Value.int IntKind.i64 (s.1))))]) (fun s σ => s.1 ≤ cl.length ∧ (∀ j, j < s.1 → addR (pcl cl j) (y1, y2) = (f j, 0)) ∧ σ.get 0 = some (.cells 10 [.agg [K, W, R, CL, (AVal.sc (Value.int IntKind.i64 (x1))), (AVal.sc (Value.int IntKind.i64 (x2))), (AVal.sc (Value.int IntKind.i64 (c1))), (AVal.sc (Value.bool (c2))), (AVal.sc (Value.bool (c3))), (AVal.sc (Value.int IntKind.i64 (c4)))]]) ∧ σ.get 1 = some (.cells 2 [.agg [(AVal.sc (Value.int IntKind.i64 (y1))), (AVal.sc (Value.int IntKind.i64 (y2)))]]) ∧ σ.get 2 = some (.cells 2 [.agg [W1, R1]]) ∧ Gw 3 σ 2 s.2 (((List.range s.1).map f).map rA)) (fun s => cl.length - s.1) (fun _ => rfl) (0, (AVal.sc (Value.slice none 0 0))) ?_ ?_ ?_ | refine Z_loop (ι := Nat × AVal) (fun s => [(2, .ptr 0 0 0), (3, .ptr 1 0 0), (4, (AVal.sc (Value.bool (false)))), (5, .ptr 2 0 0), (16, s.2), (17, (AVal.sc (Value.int IntKind.i64 (s.1))))]) (fun s σ => s.1 ≤ cl.length ∧ (∀ j, j < s.1 → addR (pcl cl j) (y1, y2) = (f j, 0)) ∧ σ.get 0 = some (.cells 10 [.agg [K, W, R, CL, (AVal.sc (Value.int IntKind.i64 (x1))), (AVal.sc (Value.int IntKind.i64 (x2))), (AVal.sc (Value.int IntKind.i64 (c1))), (AVal.sc (Value.bool (c2))), (AVal.sc (Value.bool (c3))), (AVal.sc (Value.int IntKind.i64 (c4)))]]) ∧ σ.get 1 = some (.cells 2 [.agg [(AVal.sc (Value.int IntKind.i64 (y1))), (AVal.sc (Value.int IntKind.i64 (y2)))]]) ∧ σ.get 2 = some (.cells 2 [.agg [W1, R1]]) ∧ Gw 3 σ 2 s.2 (((List.range s.1).map f).map rA)) (fun s => cl.length - s.1) (fun _ => rfl) (0, (AVal.sc (Value.slice none 0 0))) ?_ ?_ ?_)
 ·refine ⟨?_, ?_, ?_, ?_, rfl, rfl, trivial⟩ <;> simp (maxSteps := 500000) -implicitDefEqProofs only [go_sem, t2, t3, t4, t5]
 ·exact ⟨Nat.zero_le _, by omega, g0, g1, g2, Gw.nil⟩
 clear g0 g1 g2 t2 t3 t4 t5 e σ
 rintro ⟨i, v⟩ σ ⟨hi, hall, g0, g1, g2, hgw⟩
 dsimp only at hi hall g0 g1 g2 hgw
 simp (maxSteps := 500000) -implicitDefEqProofs only [go_sem, g0, hC.len]
 by_cases h2 : (i : Int) < cl.length
 ·have hik : i < cl.length := by omega
  rw [dct h2]
  obtain ⟨p, hp⟩ : ∃ p, p = σ.next := ⟨_, rfl⟩
  have n2 := AStore.lt_of_get g2
  have p0 : ¬ 0 = p := by omega
  have p1 : ¬ 1 = p := by omega
  have p2 : ¬ 2 = p := by omega
  obtain ⟨i1, i2⟩ := ok_in hok _ (List.mem_of_getElem? (pcl_get hik))
  have aC := raddC (w := w) (pcl cl i) (y1, y2) i1 i2 hy.1 hy.2
  have hx' : (cl.map rA)[i]? = some (rA (pcl cl i)) := by rw [List.getElem?_map, pcl_get hik]; rfl
  have hw := wrapS (i := i) (by omega)
  have hfi : (addR (pcl cl i) (y1, y2)).1 = f i := by rw [hf]
  obtain ⟨⟨⟨s1, s2⟩, er⟩, hsum⟩ : ∃ s, addR (pcl cl i) (y1, y2) = s := ⟨_, rfl⟩
  rw [hsum] at aC hfi
  obtain ⟨⟨q1, q2⟩, hqe⟩ : ∃ q, q = pcl cl i := ⟨_, rfl⟩
  rw [← hqe] at aC hx'
  simp only [rA, rE] at aC hx'
  dsimp only at hfi
  obtain ⟨σ0, hs0⟩ : ∃ s, s = (σ.alloc (.cells 2 [.agg [(AVal.sc (Value.int IntKind.i64 (0))), (AVal.sc (Value.int IntKind.i64 (0)))]])).set p (.cells 2 [.agg [(AVal.sc (Value.int IntKind.i64 (s1))), (AVal.sc (Value.int IntKind.i64 (s2)))]]) := ⟨_, rfl⟩
  have g00 : σ0.get 0 = some (.cells 10 [.agg [K, W, R, CL, (AVal.sc (Value.int IntKind.i64 (x1))), (AVal.sc (Value.int IntKind.i64 (x2))), (AVal.sc (Value.int IntKind.i64 (c1))), (AVal.sc (Value.bool (c2))), (AVal.sc (Value.bool (c3))), (AVal.sc (Value.int IntKind.i64 (c4)))]]) := by rw [hs0]; exact get_set_ne (get_alloc_old g0) p0
  have g10 : σ0.get 1 = some (.cells 2 [.agg [(AVal.sc (Value.int IntKind.i64 (y1))), (AVal.sc (Value.int IntKind.i64 (y2)))]]) := by rw [hs0]; exact get_set_ne (get_alloc_old g1) p1
  have g20 : σ0.get 2 = some (.cells 2 [.agg [W1, R1]]) := by rw [hs0]; exact get_set_ne (get_alloc_old g2) p2
  have gp0 : σ0.get p = some (.cells 2 [.agg [(AVal.sc (Value.int IntKind.i64 (s1))), (AVal.sc (Value.int IntKind.i64 (s2)))]]) := by rw [hs0, AStore.get_set, if_pos ⟨rfl, by rw [alloc_next]; omega⟩]
  have hgw0 : Gw 3 σ0 2 v (((List.range i).map f).map rA) := by rw [hs0]; exact hgw.new.put fun l hl => by have := hgw.lt hl; omega
  obtain ⟨σ', r1', r2', r3', r4', r5'⟩ := hgw0.push 16 (.cells 2 [.agg [(AVal.sc (Value.int IntKind.i64 (s1))), (AVal.sc (Value.int IntKind.i64 (s2)))]]) (.agg [(AVal.sc (Value.int IntKind.i64 (s1))), (AVal.sc (Value.int IntKind.i64 (s2)))]) (by have := AStore.lt_of_get gp0; omega) (by rw [List.length_map, List.length_map, List.length_range]; omega) (by decide) (by decide) (rfl_cells (s1, s2))
  rw [List.length_map, List.length_map, List.length_range] at r1' r2'
  refine vzt ?_
  (repeat' first | ((first | refine vy1 ?_ ?_ | refine vy2 ?_ ?_ | refine vy3 ?_ ?_) <;> rintro ⟨hd, hq⟩ <;> first | (exfalso; omega) | simp (maxSteps := 500000) -implicitDefEqProofs only [go_sem, hd] | skip) | refine vzt ?_ | refine vzf ?_ | refine vsb ?_ | refine vzb ?_ | refine vzq ?_ | simp (maxSteps := 500000) -implicitDefEqProofs only [go_sem])
  ((try (refine Z_seq ?_; (try simp (maxSteps := 500000) -implicitDefEqProofs only [go_sem]))); refine Z_drawT (by kernel_rfl) [0, 1, 2, 3, 4, 5, 6, 7, 8, 9, 10, 11, 12] [(12, 4095), (11, 1535), (10, 0), (9, 255), (8, 255), (7, 127), (6, 63), (5, 0), (4, 15), (3, 7), (2, 0), (1, 1), (0, 0)] (.one 0 (.one 1 (.one 2 (.one 3 (.one 4 (.one 5 (.two 6 (.one 7 (.one 8 (.one 9 (.one 10 (.one 11 (.one 12 .fin)))))) 10 (.one 6 (.one 7 (.one 8 (.one 9 (.one 11 (.one 12 .fin))))))))))))) (by kernel_rfl) (by kernel_rfl) (by kernel_rfl) ?_)
  simp (maxSteps := 500000) -implicitDefEqProofs only [go_sem, g0, g1, kK, kW, kR, kC, cK, cW, cR, cC, iK, iW, iR, iC, hC.idx hx', rA, ← hp, p0, p1]
  have p0' : ¬ p = 0 := by omega
  have p1' : ¬ p = 1 := by omega
  have zz : p < p + 1 := by omega
  refine ⟨aC.useD ?_, aC.useE ?_⟩
  ·simp (maxSteps := 500000) -implicitDefEqProofs only [go_sem, g0, g1, kK, kW, kR, kC, cK, cW, cR, cC, iK, iW, iR, iC, hC.idx hx', rA, ← hp, ← hs0, p0, p1, p2, p0', p1', zz]
   by_cases he : er = 0
   ·subst he
    have hfe : f i = (s1, s2) := hfi.symm
    (repeat' first | ((first | refine vy1 ?_ ?_ | refine vy2 ?_ ?_ | refine vy3 ?_ ?_) <;> rintro ⟨hd, hq⟩ <;> first | (exfalso; omega) | simp (maxSteps := 500000) -implicitDefEqProofs only [go_sem, hd, gp0, r1', hw] | skip) | refine vzt ?_ | refine vzf ?_ | refine vsb ?_ | refine vzb ?_ | refine vzq ?_ | simp (maxSteps := 500000) -implicitDefEqProofs only [go_sem, gp0, r1', hw])
    refine ⟨(i + 1, .slice (σ0.next + 1) 0 (i + 1)), by dsimp only; omega, ⟨by dsimp only; omega, ?_, r5' 0 _ (by omega) g00, r5' 1 _ (by omega) g10, r5' 2 _ (by omega) g20, ?_⟩, ?_⟩
    ·intro j hj
     rcases Nat.lt_or_ge j i with h' | h'
     ·exact hall j h'
     ·obtain rfl : j = i := by dsimp only at hj; omega
      rw [hsum, hfe]
    ·rw [← rng_snoc hfe.symm, List.map_append]; exact r2'
    ·(repeat' (first | exact trivial | refine ⟨rfl, ?_⟩))
   ·(repeat' first | ((first | refine vy1 ?_ ?_ | refine vy2 ?_ ?_ | refine vy3 ?_ ?_) <;> rintro ⟨hd, hq⟩ <;> first | (exfalso; omega) | simp (maxSteps := 500000) -implicitDefEqProofs only [go_sem, hd, dcf he] | skip) | refine vzt ?_ | refine vzf ?_ | refine vsb ?_ | refine vzb ?_ | refine vzq ?_ | simp (maxSteps := 500000) -implicitDefEqProofs only [go_sem, dcf he])
    refine haw.use ?_
    rintro v rfl
    (repeat' first | ((first | refine vy1 ?_ ?_ | refine vy2 ?_ ?_ | refine vy3 ?_ ?_) <;> rintro ⟨hd, hq⟩ <;> first | (exfalso; omega) | simp (maxSteps := 500000) -implicitDefEqProofs only [go_sem, hd] | skip) | refine vzt ?_ | refine vzf ?_ | refine vsb ?_ | refine vzb ?_ | refine vzq ?_ | simp (maxSteps := 500000) -implicitDefEqProofs only [go_sem])
  ·simp (maxSteps := 500000) -implicitDefEqProofs only [go_sem, g0, g1, kK, kW, kR, kC, cK, cW, cR, cC, iK, iW, iR, iC, hC.idx hx', rA, ← hp, ← hs0, p0, p1, p2, p0', p1', zz]
   by_cases he : er = 0
   ·subst he
    have hfe : f i = (s1, s2) := hfi.symm
    (repeat' first | ((first | refine vy1 ?_ ?_ | refine vy2 ?_ ?_ | refine vy3 ?_ ?_) <;> rintro ⟨hd, hq⟩ <;> first | (exfalso; omega) | simp (maxSteps := 500000) -implicitDefEqProofs only [go_sem, hd, gp0, r1', hw] | skip) | refine vzt ?_ | refine vzf ?_ | refine vsb ?_ | refine vzb ?_ | refine vzq ?_ | simp (maxSteps := 500000) -implicitDefEqProofs only [go_sem, gp0, r1', hw])
    refine ⟨(i + 1, .slice (σ0.next + 1) 0 (i + 1)), by dsimp only; omega, ⟨by dsimp only; omega, ?_, r5' 0 _ (by omega) g00, r5' 1 _ (by omega) g10, r5' 2 _ (by omega) g20, ?_⟩, ?_⟩
    ·intro j hj
     rcases Nat.lt_or_ge j i with h' | h'
     ·exact hall j h'
     ·obtain rfl : j = i := by dsimp only at hj; omega
      rw [hsum, hfe]
    ·rw [← rng_snoc hfe.symm, List.map_append]; exact r2'
    ·(repeat' (first | exact trivial | refine ⟨rfl, ?_⟩))
   ·(repeat' first | ((first | refine vy1 ?_ ?_ | refine vy2 ?_ ?_ | refine vy3 ?_ ?_) <;> rintro ⟨hd, hq⟩ <;> first | (exfalso; omega) | simp (maxSteps := 500000) -implicitDefEqProofs only [go_sem, hd, dcf he] | skip) | refine vzt ?_ | refine vzf ?_ | refine vsb ?_ | refine vzb ?_ | refine vzq ?_ | simp (maxSteps := 500000) -implicitDefEqProofs only [go_sem, dcf he])
    refine haw.use ?_
    rintro v rfl
    (repeat' first | ((first | refine vy1 ?_ ?_ | refine vy2 ?_ ?_ | refine vy3 ?_ ?_) <;> rintro ⟨hd, hq⟩ <;> first | (exfalso; omega) | simp (maxSteps := 500000) -implicitDefEqProofs only [go_sem, hd] | skip) | refine vzt ?_ | refine vzf ?_ | refine vsb ?_ | refine vzb ?_ | refine vzq ?_ | simp (maxSteps := 500000) -implicitDefEqProofs only [go_sem])
 ·obtain rfl : i = cl.length := by omega
  rw [dcf h2]
  refine Z_less (e := [(2, .ptr 0 0 0), (4, (AVal.sc (Value.bool (false)))), (5, .ptr 2 0 0), (16, v), (182, (AVal.sc (Value.bool (false))))]) ?_ rfl ?_
  rotate_left
  ·(repeat' (first | exact trivial | refine ⟨rfl, ?_⟩))
  have rpl : ∀ (b : Nat) (els : List AVal), repls b 2 els [.agg [K, W, R, CL, (AVal.sc (Value.int IntKind.i64 (x1))), (AVal.sc (Value.int IntKind.i64 (x2))), (AVal.sc (Value.int IntKind.i64 (c1))), (AVal.sc (Value.bool (c2))), (AVal.sc (Value.bool (c3))), (AVal.sc (Value.int IntKind.i64 (c4)))]] = [.agg [K, W, R, CL, (AVal.sc (Value.int IntKind.i64 (x1))), (AVal.sc (Value.int IntKind.i64 (x2))), (AVal.sc (Value.int IntKind.i64 (c1))), (AVal.sc (Value.bool (c2))), (AVal.sc (Value.bool (c3))), (AVal.sc (Value.int IntKind.i64 (c4)))]] ∧ repls b 2 els [.agg [W1, R1]] = [.agg [W1, R1]] := by
   intro b els
   have r1 : repl b 2 els K = K := hK.repl (repls_map (fun _ => rfl) _)
   have r2 : repl b 2 els W = W := hW.repl (repls_map (fun _ => rfl) _)
   have r3 : repl b 2 els R = R := hR.repl (repls_map (fun _ => rfl) _)
   have r4 : repl b 2 els CL = CL := hC.repl (repls_map (fun _ => rfl) _)
   have r5 : repl b 2 els W1 = W1 := hW1.repl (repls_map (fun _ => rfl) _)
   have r6 : repl b 2 els R1 = R1 := hR1.repl (repls_map (fun _ => rfl) _)
   simp only [repls, repl, r1, r2, r3, r4, r5, r6, and_self]
  refine Z_forkE (e := fun x => [(2, .ptr 0 0 0), (4, (AVal.sc (Value.bool (false)))), (5, .ptr 2 0 0), (16, x), (182, (AVal.sc (Value.bool (false))))])
   (P := fun x τ => IsD 2 x (((List.range cl.length).map f).map rA) ∧ τ.get 0 = some (.cells 10 [.agg [K, W, R, CL, (AVal.sc (Value.int IntKind.i64 (x1))), (AVal.sc (Value.int IntKind.i64 (x2))), (AVal.sc (Value.int IntKind.i64 (c1))), (AVal.sc (Value.bool (c2))), (AVal.sc (Value.bool (c3))), (AVal.sc (Value.int IntKind.i64 (c4)))]]) ∧ τ.get 2 = some (.cells 2 [.agg [W1, R1]])) ?_ ?_
  rotate_left
  ·rcases hgw with ⟨he, rfl⟩ | ⟨b, hb, rfl, hg⟩
   ·exact .inl ⟨_, rfl, .inl ⟨he, _, _, rfl⟩, g0, g2⟩
   ·refine .inr ⟨b, 2, _, .data 2 false (((List.range cl.length).map f).map rA), hg, ?_, .inr ⟨_, rfl⟩, ?_, ?_⟩
    ·simp only [replE, List.map, repl_ptr, repl_sc, repl_self]
    ·rw [replS_get, if_neg (by omega), g0, Option.map_some, replB_cells, (rpl _ _).1]
    ·rw [replS_get, if_neg (by omega), g2, Option.map_some, replB_cells, (rpl _ _).2]
  clear hgw g0 g1 g2 rpl σ v hi
  rintro S σ ⟨hS, g0, g2⟩
  obtain ⟨lcl, hlc⟩ : ∃ lcl, lcl = (List.range cl.length).map f := ⟨_, rfl⟩
  rw [← hlc] at hS
  have lcl_len : lcl.length = k.length := by rw [hlc]; simp [hlen]
  have lcl_at : ∀ i, i < k.length → pcl lcl i = f i := fun i hi => pcl_of (by rw [hlc, List.getElem?_map, List.getElem?_range (by omega)]; rfl)
  have hsum : ∀ i, i < k.length → validR (f i) = true ∧ 0 ≤ (f i).1 ∧ (f i).1 * D = (X i + B) * (f i).2 := fun i hi =>
   add_cross (hall i (by omega)) (hok.2.2 i hi).1 hv (hok.2.2 i hi).2 (by dsimp only; omega) hD (hX i (by omega)) hB
  have hok5 : ofOk k lcl := ⟨hok.1, lcl_len, fun i hi => by rw [lcl_at i hi]; exact ⟨(hsum i hi).1, (hsum i hi).2.1⟩⟩
  obtain ⟨rg5, _⟩ := of_regL (X := fun i => X i + B) hok5 hD fun i hi => by rw [lcl_at i hi]; exact (hsum i hi).2.2
  obtain ⟨lw', rw', hof5⟩ : ∃ l1 r1, ofP k lcl = ((l1, r1), 0) := ⟨_, _, of_good hok5⟩
  rw [hof5] at rg5
  dsimp only at rg5
  have oC5 := of1C (w := w) hK hS (l1000 b1) (by omega) (ok_in hok5)
  rw [hof5] at oC5
  dsimp only at oC5
  have kS := hS.fit
  have cS := hS.cells
  have iS := hS.isCell
  obtain ⟨p20, hp⟩ : ∃ p, p = σ.next := ⟨_, rfl⟩
  have n2 := AStore.lt_of_get g2
  have p0 : ¬ 0 = p20 := by omega
  have p2 : ¬ 2 = p20 := by omega
  refine vzf ?_
  simp (maxSteps := 500000) -implicitDefEqProofs only [go_sem]
  (repeat' first | ((first | refine vy1 ?_ ?_ | refine vy2 ?_ ?_ | refine vy3 ?_ ?_) <;> rintro ⟨hd, hq⟩ <;> first | (exfalso; omega) | simp (maxSteps := 500000) -implicitDefEqProofs only [go_sem, hd, g0, kS, cS, iS, kK, kW, kR, kC, cK, cW, cR, cC, iK, iW, iR, iC] | skip) | refine vzt ?_ | refine vzf ?_ | refine vsb ?_ | refine vzb ?_ | refine vzq ?_ | simp (maxSteps := 500000) -implicitDefEqProofs only [go_sem, g0, kS, cS, iS, kK, kW, kR, kC, cK, cW, cR, cC, iK, iW, iR, iC])
  refine oC5.use ?_
  rintro _ ⟨W5, R5, rfl, hW5, hR5⟩
  have k5w := hW5.fit
  have k5r := hR5.fit
  have c5w := hW5.cells
  have c5r := hR5.cells
  have i5w := hW5.isCell
  have i5r := hR5.isCell
  obtain ⟨σ5, hs5⟩ : ∃ s, s = (σ.alloc (.cells 2 [.agg [(AVal.sc (Value.slice none 0 0)), (AVal.sc (Value.slice none 0 0))]])).set p20 (.cells 2 [.agg [W5, R5]]) := ⟨_, rfl⟩
  have g05 : σ5.get 0 = some (.cells 10 [.agg [K, W, R, CL, (AVal.sc (Value.int IntKind.i64 (x1))), (AVal.sc (Value.int IntKind.i64 (x2))), (AVal.sc (Value.int IntKind.i64 (c1))), (AVal.sc (Value.bool (c2))), (AVal.sc (Value.bool (c3))), (AVal.sc (Value.int IntKind.i64 (c4)))]]) := by rw [hs5]; exact get_set_ne (get_alloc_old g0) p0
  have g25 : σ5.get 2 = some (.cells 2 [.agg [W1, R1]]) := by rw [hs5]; exact get_set_ne (get_alloc_old g2) p2
  have gp5 : σ5.get p20 = some (.cells 2 [.agg [W5, R5]]) := by rw [hs5, AStore.get_set, if_pos ⟨rfl, by rw [alloc_next]; omega⟩]
  clear g0 g2 hS hlc hsum
  have s5 := rg5.1
  have s6 := rg5.2.1
  (repeat' first | ((first | refine vy1 ?_ ?_ | refine vy2 ?_ ?_ | refine vy3 ?_ ?_) <;> rintro ⟨hd, hq⟩ <;> first | (exfalso; omega) | simp (maxSteps := 500000) -implicitDefEqProofs only [go_sem, hd, rgA, ← hp, ← hs5, k5w, k5r, c5w, c5r, i5w, i5r] | skip) | refine vzt ?_ | refine vzf ?_ | refine vsb ?_ | refine vzb ?_ | refine vzq ?_ | simp (maxSteps := 500000) -implicitDefEqProofs only [go_sem, rgA, ← hp, ← hs5, k5w, k5r, c5w, c5r, i5w, i5r])
  (first | refine Z_block_loop (ι := Nat × (AVal × AVal) × (List Int × List Int)) (fun s => [(2, .ptr 0 0 0), (4, (AVal.sc (Value.bool (false)))), (5, .ptr 2 0 0), (20, .ptr p20 0 0), (22, (AVal.sc (Value.int IntKind.i64 (s.1))))]) (fun s σ => IsD 1 s.2.1.1 (s.2.2.1.map iA) ∧ IsD 1 s.2.1.2 (s.2.2.2.map iA) ∧ (∃ D X t, Next k s.2.2.1 s.2.2.2 lw' rw' D X t) ∧ muL k s.2.2.1 s.2.2.2 + s.1 ≤ 20030 ∧ σ.get 0 = some (.cells 10 [.agg [K, W, R, CL, (AVal.sc (Value.int IntKind.i64 (x1))), (AVal.sc (Value.int IntKind.i64 (x2))), (AVal.sc (Value.int IntKind.i64 (c1))), (AVal.sc (Value.bool (c2))), (AVal.sc (Value.bool (c3))), (AVal.sc (Value.int IntKind.i64 (c4)))]]) ∧ σ.get 2 = some (.cells 2 [.agg [s.2.1.1, s.2.1.2]]) ∧ σ.get p20 = some (.cells 2 [.agg [W5, R5]])) (fun s => 30000 - s.1) (fun _ => rfl) (0, (W1, R1), (l1, r1)) ?_ ?_ ?_ | refine Z_seq_loop (ι := Nat × (AVal × AVal) × (List Int × List Int)) (fun s => [(2, .ptr 0 0 0), (4, (AVal.sc (Value.bool (false)))), (5, .ptr 2 0 0), (20, .ptr p20 0 0), (22, (AVal.sc (Value.int IntKind.i64 (s.1))))]) (fun s σ => IsD 1 s.2.1.1 (s.2.2.1.map iA) ∧ IsD 1 s.2.1.2 (s.2.2.2.map iA) ∧ (∃ D X t, Next k s.2.2.1 s.2.2.2 lw' rw' D X t) ∧ muL k s.2.2.1 s.2.2.2 + s.1 ≤ 20030 ∧ σ.get 0 = some (.cells 10 [.agg [K, W, R, CL, (AVal.sc (Value.int IntKind.i64 (x1))), (AVal.sc (Value.int IntKind.i64 (x2))), (AVal.sc (Value.int IntKind.i64 (c1))), (AVal.sc (Value.bool (c2))), (AVal.sc (Value.bool (c3))), (AVal.sc (Value.int IntKind.i64 (c4)))]]) ∧ σ.get 2 = some (.cells 2 [.agg [s.2.1.1, s.2.1.2]]) ∧ σ.get p20 = some (.cells 2 [.agg [W5, R5]])) (fun s => 30000 - s.1) (fun _ => rfl) (0, (W1, R1), (l1, r1)) ?_ ?_ ?_ | refine Z_loop (ι := Nat × (AVal × AVal) × (List Int × List Int)) (fun s => [(2, .ptr 0 0 0), (4, (AVal.sc (Value.bool (false)))), (5, .ptr 2 0 0), (20, .ptr p20 0 0), (22, (AVal.sc (Value.int IntKind.i64 (s.1))))]) (fun s σ => IsD 1 s.2.1.1 (s.2.2.1.map iA) ∧ IsD 1 s.2.1.2 (s.2.2.2.map iA) ∧ (∃ D X t, Next k s.2.2.1 s.2.2.2 lw' rw' D X t) ∧ muL k s.2.2.1 s.2.2.2 + s.1 ≤ 20030 ∧ σ.get 0 = some (.cells 10 [.agg [K, W, R, CL, (AVal.sc (Value.int IntKind.i64 (x1))), (AVal.sc (Value.int IntKind.i64 (x2))), (AVal.sc (Value.int IntKind.i64 (c1))), (AVal.sc (Value.bool (c2))), (AVal.sc (Value.bool (c3))), (AVal.sc (Value.int IntKind.i64 (c4)))]]) ∧ σ.get 2 = some (.cells 2 [.agg [s.2.1.1, s.2.1.2]]) ∧ σ.get p20 = some (.cells 2 [.agg [W5, R5]])) (fun s => 30000 - s.1) (fun _ => rfl) (0, (W1, R1), (l1, r1)) ?_ ?_ ?_)
  ·(repeat' (first | exact trivial | refine ⟨rfl, ?_⟩))
  ·exact ⟨hW1, hR1, ⟨D, X, B, hD, nn, hB0, rg, rg5⟩, by have := mu_bnd hok.1 hck; dsimp only; omega, g05, g25, gp5⟩
  clear g05 g25 gp5 hs5 hp n2 p0 σ5 σ
  rintro ⟨j, ⟨Wl, Rl⟩, l, r⟩ σ ⟨hWl, hRl, ⟨D', X', t', hnx⟩, hmu, g0, g2, gp⟩
  dsimp only at hWl hRl hnx hmu g0 g2 gp
  have klw := hWl.fit
  have klr := hRl.fit
  have clw := hWl.cells
  have clr := hRl.cells
  have ilw := hWl.isCell
  have ilr := hRl.isCell
  have hckl : checkP k l r := regL_check hok.1 hnx.1 hnx.2.1 hnx.2.2.2.1
  have el1 := hnx.2.2.2.1.1
  have el2 := hnx.2.2.2.1.2.1
  have sCl := sameC (w := w) hWl hRl hW5 hR5 (by omega) (by omega) (by omega) (by omega)
  simp only [rgA] at sCl
  have dj : decide ((j : Int) < 30000) = true := dct (by omega)
  have hwj := wrapS (i := j) (by omega)
  have n2 := AStore.lt_of_get g2
  have n20 := AStore.lt_of_get gp
  simp (maxSteps := 500000) -implicitDefEqProofs only [go_sem, dj]
  refine vzt ?_
  (repeat' first | ((first | refine vy1 ?_ ?_ | refine vy2 ?_ ?_ | refine vy3 ?_ ?_) <;> rintro ⟨hd, hq⟩ <;> first | (exfalso; omega) | simp (maxSteps := 500000) -implicitDefEqProofs only [go_sem, hd, g2, gp, k5w, k5r, c5w, c5r, i5w, i5r, klw, klr, clw, clr, ilw, ilr] | skip) | refine vzt ?_ | refine vzf ?_ | refine vsb ?_ | refine vzb ?_ | refine vzq ?_ | simp (maxSteps := 500000) -implicitDefEqProofs only [go_sem, g2, gp, k5w, k5r, c5w, c5r, i5w, i5r, klw, klr, clw, clr, ilw, ilr])
  refine sCl.use ?_
  by_cases he : l = lw' ∧ r = rw'
  ·rw [dct he.1, dct he.2, Bool.and_self]
   (repeat' first | ((first | refine vy1 ?_ ?_ | refine vy2 ?_ ?_ | refine vy3 ?_ ?_) <;> rintro ⟨hd, hq⟩ <;> first | (exfalso; omega) | simp (maxSteps := 500000) -implicitDefEqProofs only [go_sem, hd] | skip) | refine vzt ?_ | refine vzf ?_ | refine vsb ?_ | refine vzb ?_ | refine vzq ?_ | simp (maxSteps := 500000) -implicitDefEqProofs only [go_sem])
   refine haw.use ?_
   rintro v rfl
   (repeat' first | ((first | refine vy1 ?_ ?_ | refine vy2 ?_ ?_ | refine vy3 ?_ ?_) <;> rintro ⟨hd, hq⟩ <;> first | (exfalso; omega) | simp (maxSteps := 500000) -implicitDefEqProofs only [go_sem, hd] | skip) | refine vzt ?_ | refine vzf ?_ | refine vsb ?_ | refine vzb ?_ | refine vzq ?_ | simp (maxSteps := 500000) -implicitDefEqProofs only [go_sem])
  ·have hfal : (decide (l = lw') && decide (r = rw')) = false := by
    by_cases h1 : l = lw'
    ·rw [dcf (fun h2 => he ⟨h1, h2⟩), Bool.and_false]
    ·rw [dcf h1, Bool.false_and]
   rw [hfal]
   obtain ⟨hon, hmu2, D2, X2, t2, hnx2⟩ := next_step hok.1 hnx he
   have laC := later1C (w := w) hK hWl hRl (l1000 b1) (by omega) (by omega)
   rw [check_good hckl, show latP k l r = ((lats (nxL k l r) true l, lats (nxR k l r) true r), true) by unfold latP; rw [if_pos hckl, hon]] at laC
   dsimp only at laC
   obtain ⟨p23, hp⟩ : ∃ p, p = σ.next := ⟨_, rfl⟩
   have n0 := AStore.lt_of_get g0
   have p0 : ¬ 0 = p23 := by omega
   have p2' : ¬ 2 = p23 := by omega
   have p20' : ¬ p20 = p23 := by omega
   have p202 : ¬ p20 = 2 := fun h => p2 h.symm
   (repeat' first | ((first | refine vy1 ?_ ?_ | refine vy2 ?_ ?_ | refine vy3 ?_ ?_) <;> rintro ⟨hd, hq⟩ <;> first | (exfalso; omega) | simp (maxSteps := 500000) -implicitDefEqProofs only [go_sem, hd, g0, g2, gp, kK, kW, kR, kC, cK, cW, cR, cC, iK, iW, iR, iC, k5w, k5r, c5w, c5r, i5w, i5r, klw, klr, clw, clr, ilw, ilr] | skip) | refine vzt ?_ | refine vzf ?_ | refine vsb ?_ | refine vzb ?_ | refine vzq ?_ | simp (maxSteps := 500000) -implicitDefEqProofs only [go_sem, g0, g2, gp, kK, kW, kR, kC, cK, cW, cR, cC, iK, iW, iR, iC, k5w, k5r, c5w, c5r, i5w, i5r, klw, klr, clw, clr, ilw, ilr])
   refine laC.use ?_
   rintro _ ⟨W6, R6, rfl, hW6, hR6⟩
   have k6w := hW6.fit
   have k6r := hR6.fit
   have c6w := hW6.cells
   have c6r := hR6.cells
   have i6w := hW6.isCell
   have i6r := hR6.isCell
   obtain ⟨σ6, hs6⟩ : ∃ s, s = (σ.alloc (.cells 2 [.agg [(AVal.sc (Value.slice none 0 0)), (AVal.sc (Value.slice none 0 0))]])).set p23 (.cells 2 [.agg [W6, R6]]) := ⟨_, rfl⟩
   have g06 : σ6.get 0 = some (.cells 10 [.agg [K, W, R, CL, (AVal.sc (Value.int IntKind.i64 (x1))), (AVal.sc (Value.int IntKind.i64 (x2))), (AVal.sc (Value.int IntKind.i64 (c1))), (AVal.sc (Value.bool (c2))), (AVal.sc (Value.bool (c3))), (AVal.sc (Value.int IntKind.i64 (c4)))]]) := by rw [hs6]; exact get_set_ne (get_alloc_old g0) p0
   have g26 : σ6.get 2 = some (.cells 2 [.agg [Wl, Rl]]) := by rw [hs6]; exact get_set_ne (get_alloc_old g2) p2'
   have gp6 : σ6.get p20 = some (.cells 2 [.agg [W5, R5]]) := by rw [hs6]; exact get_set_ne (get_alloc_old gp) p20'
   have g23 : σ6.get p23 = some (.cells 2 [.agg [W6, R6]]) := by rw [hs6, AStore.get_set, if_pos ⟨rfl, by rw [alloc_next]; omega⟩]
   have n26 := AStore.lt_of_get g26
   simp (maxSteps := 500000) -implicitDefEqProofs only [go_sem, rgA, ← hp, ← hs6, k6w, k6r, c6w, c6r, i6w, i6r, klw, klr, clw, clr, ilw, ilr]
   (repeat' (first | refine vzf ?_ | simp (maxSteps := 500000) -implicitDefEqProofs only [go_sem, g23, g26, n26, k6w, k6r, c6w, c6r, i6w, i6r, klw, klr, clw, clr, ilw, ilr, hwj]))
   refine ⟨(j + 1, (W6, R6), (lats (nxL k l r) true l, lats (nxR k l r) true r)), by dsimp only; omega, ⟨hW6, hR6, ⟨D2, X2, t2, hnx2⟩, by dsimp only; omega, ?_, ?_, ?_⟩, ?_⟩
   ·exact get_set_ne g06 (by omega)
   ·rw [AStore.get_set, if_pos ⟨rfl, n26⟩]
   ·exact get_set_ne gp6 p202
   ·(repeat' (first | exact trivial | refine ⟨rfl, ?_⟩))
end Abs
