/-
  Functions of the program walked: each is shown to compute a plain function (V1).
-/
import Derived.Test.YtggndcghabholaaOU2
import Derived.Test.YtggndcghabholaaOTF
import Derived.Test.YtggndcghabholaaOT13
import Derived.Test.YtggndcghabholaaOAbsTyW
import Derived.Test.YtggndcghabholaaOAbsEn
noncomputable section
namespace Abs
set_option linter.unusedSimpArgs false
set_option linter.unusedVariables false
set_option maxRecDepth 100000
set_option maxHeartbeats 2000000
open Go Go.Proofs
theorem callsEs_at {l : List Fc} : ∀ {xs : List Ex}, callsEs l xs = true → ∀ {j : Nat} {x : Ex}, xs[j]? = some x → callsE l x = true
  | [], _, j, x, h => by simp at h
  | y :: xs, h, 0, x, hx => by
      simp at hx; subst hx
      simp only [callsEs, Bool.and_eq_true] at h
      exact h.1
  | y :: xs, h, j + 1, x, hx => by
      simp only [callsEs, Bool.and_eq_true] at h
      exact callsEs_at h.2 (by simpa using hx)
theorem callsSs_at {l : List Fc} : ∀ {xs : List St}, callsSs l xs = true → ∀ {j : Nat} {x : St}, xs[j]? = some x → callsS l x = true
  | [], _, j, x, h => by simp at h
  | y :: xs, h, 0, x, hx => by
      simp at hx; subst hx
      simp only [callsSs, Bool.and_eq_true] at h
      exact h.1
  | y :: xs, h, j + 1, x, hx => by
      simp only [callsSs, Bool.and_eq_true] at h
      exact callsSs_at h.2 (by simpa using hx)
set_option maxHeartbeats 8000000 in
theorem callsStep {k i : Int} {nm : ByteArray} {xs : List Ex} {w : WD} {v F : AVal} {l : List Fc} {fels : List AVal} (h : IsEx (.mk k nm i xs) v) (hF : IsD 3 F fels) (hl : IsFcs l fels) (lf : fels.length ≤ 281474976710656) (hc : callsE l (.mk k nm i xs) = true)
  (rec : ∀ y ∈ xs, ∀ (w : WD) (v : AVal), IsEx y v → callsE l y = true → GivesV (EE w) 33 [v, F] (AVal.sc (Value.bool (true)))) :
  GivesV (EE w) 33 [v, F] (AVal.sc (Value.bool (true))) := by
 have hwf := h.wf
 simp only [IsEx] at h
 obtain ⟨S, els, rfl, hS, hx, hk, hi, hn, hlS⟩ := h
 have hlen := hx.len
 have hSn := fun σ : AStore => hS.lenN hlen (σ := σ)
 have hll := hl.len
 have hFn : ∀ σ : AStore, aLen (.slice 0) F σ = some (.sc (.int .i64 (l.length))) := fun σ => hF.lenN hll
 have kS := hS.fit
 have cS := hS.cells
 have iS := hS.isCell
 simp only [callsE, Bool.and_eq_true] at hc
 obtain ⟨hc1, hc2⟩ := hc
 refine GivesV.of (fun _ => .sc _) (.cons _ _ hwf (.cons _ _ (hF.wf hl.wf) .nil)) 1 ?_
 refine of_33 rfl rfl rfl (by kernel_rfl) ?_
 simp -implicitDefEqProofs only [go_sem, kS, cS, iS]
 have g0 : (empty.alloc (.cells 4 [.agg [(.sc (.int .i64 (k))), .sc (.string nm), (.sc (.int .i64 (i))), S]])).get 0 = some (.cells 4 [.agg [(.sc (.int .i64 (k))), .sc (.string nm), (.sc (.int .i64 (i))), S]]) := by rw [AStore.get_alloc]; rfl
 generalize empty.alloc (.cells 4 [.agg [(.sc (.int .i64 (k))), .sc (.string nm), (.sc (.int .i64 (i))), S]]) = τ at g0 ⊢
 refine vlp (ι := Nat) (fun j => [(1, F), (2, .ptr 0 0 0), (5, (.sc (.int .i64 (j))))]) (fun j τ => j ≤ xs.length ∧ τ.get 0 = some (.cells 4 [.agg [(.sc (.int .i64 (k))), .sc (.string nm), (.sc (.int .i64 (i))), S]])) (fun j => xs.length - j) (fun _ => rfl) 0 ?_ ?_ ?_
 ·(repeat' (first | exact trivial | refine ⟨rfl, ?_⟩))
 ·exact ⟨Nat.zero_le _, g0⟩
 clear g0
 rintro j τ ⟨hj, g0⟩
 simp -implicitDefEqProofs only [go_sem, g0, hSn]
 ((first | refine vz2 ?_ ?_ | refine vz3 ?_ ?_) <;> intro hlt)
 ·obtain ⟨x, hx1⟩ : ∃ x, xs[j]? = some x := ⟨xs[j]'(by omega), by simp⟩
  obtain ⟨e, he, hxe⟩ := hx.at hx1
  obtain ⟨d1, d2, d3⟩ := hxe.isA.facts
  have dc := hxe.cellsOk
  have hw := wrapS (i := j) (by omega)
  (repeat' first | ((first | refine vy1 ?_ ?_ | refine vy2 ?_ ?_ | refine vy3 ?_ ?_) <;> rintro ⟨hd, hq⟩ <;> first | (exfalso; omega) | simp -implicitDefEqProofs only [go_sem, hd] | skip) | refine vzt ?_ | refine vzf ?_ | refine vsb ?_ | refine vzb ?_ | refine vzq ?_ | simp -implicitDefEqProofs only [go_sem, g0, kS, cS, iS, hS.idx he, d1, d2, d3, dc])
  refine (rec x (List.mem_of_getElem? hx1) _ e hxe (callsEs_at hc1 hx1)).use ?_
  (repeat' first | ((first | refine vy1 ?_ ?_ | refine vy2 ?_ ?_ | refine vy3 ?_ ?_) <;> rintro ⟨hd, hq⟩ <;> first | (exfalso; omega) | simp -implicitDefEqProofs only [go_sem, hd] | skip) | refine vzt ?_ | refine vzf ?_ | refine vsb ?_ | refine vzb ?_ | refine vzq ?_ | simp -implicitDefEqProofs only [go_sem, hw])
  exact ⟨j + 1, by dsimp only; omega, ⟨by omega, g0⟩, by (repeat' (first | exact trivial | refine ⟨rfl, ?_⟩))⟩
 ·by_cases hk19 : k = 19
  ·have hsm : (fcOf l nm).isSome = true := by simpa [hk19] using hc2
   (repeat' first | ((first | refine vy1 ?_ ?_ | refine vy2 ?_ ?_ | refine vy3 ?_ ?_) <;> rintro ⟨hd, hq⟩ <;> first | (exfalso; omega) | simp -implicitDefEqProofs only [go_sem, hd] | skip) | refine vzt ?_ | refine vzf ?_ | refine vsb ?_ | refine vzb ?_ | refine vzq ?_ | simp -implicitDefEqProofs only [go_sem, g0, kS, cS, iS, dct hk19])
   refine vlp (ι := Nat) (fun j => [(1, F), (2, .ptr 0 0 0), (6, (.sc (.int .i64 (j))))]) (fun j τ => j ≤ l.length ∧ τ.get 0 = some (.cells 4 [.agg [(.sc (.int .i64 (k))), .sc (.string nm), (.sc (.int .i64 (i))), S]]) ∧ fcOf (l.take j) nm = none) (fun j => l.length - j) (fun _ => rfl) 0 ?_ ?_ ?_
   ·(repeat' (first | exact trivial | refine ⟨rfl, ?_⟩))
   ·exact ⟨Nat.zero_le _, g0, rfl⟩
   clear g0
   rintro j2 τ ⟨hj2, g0, h0⟩
   simp -implicitDefEqProofs only [go_sem, hFn]
   ((first | refine vz2 ?_ ?_ | refine vz3 ?_ ?_) <;> intro hlt2)
   ·obtain ⟨f, hf⟩ : ∃ f, l[j2]? = some f := ⟨l[j2]'(by omega), by simp⟩
    obtain ⟨y, hy, hxy⟩ := hl.at' j2 f hf
    obtain ⟨SP', SB', eb', rfl, _⟩ := hxy
    have hw2 := wrapS (i := j2) (by omega)
    have hat := fcOf_at (nm := nm) hf h0
    (repeat' first | ((first | refine vy1 ?_ ?_ | refine vy2 ?_ ?_ | refine vy3 ?_ ?_) <;> rintro ⟨hd, hq⟩ <;> first | (exfalso; omega) | simp -implicitDefEqProofs only [go_sem, hd] | skip) | refine vzt ?_ | refine vzf ?_ | refine vsb ?_ | refine vzb ?_ | refine vzq ?_ | simp -implicitDefEqProofs only [go_sem])
    ((try (refine Z_seq ?_; (try simp -implicitDefEqProofs only [go_sem]))); refine Z_draw (by kernel_rfl) [0, 1, 2, 3, 4, 5, 6, 7] [(7, 127), (6, 32), (5, 0), (4, 15), (3, 7), (2, 3), (1, 0), (0, 0)] (by kernel_rfl) (by kernel_rfl) ?_)
    by_cases hxn : f.nm = nm
    ·simp -implicitDefEqProofs only [go_sem, g0, kS, cS, iS, hF.idx hy, ba_list, dct hxn]
     refine vzt ?_
     (repeat' first | ((first | refine vy1 ?_ ?_ | refine vy2 ?_ ?_ | refine vy3 ?_ ?_) <;> rintro ⟨hd, hq⟩ <;> first | (exfalso; omega) | simp -implicitDefEqProofs only [go_sem, hd] | skip) | refine vzt ?_ | refine vzf ?_ | refine vsb ?_ | refine vzb ?_ | refine vzq ?_ | simp -implicitDefEqProofs only [go_sem])
     exact ret_bool rfl
    ·rw [if_neg hxn] at hat
     simp -implicitDefEqProofs only [go_sem, g0, kS, cS, iS, hF.idx hy, ba_list, dcf hxn]
     refine vzf ?_
     (repeat' first | ((first | refine vy1 ?_ ?_ | refine vy2 ?_ ?_ | refine vy3 ?_ ?_) <;> rintro ⟨hd, hq⟩ <;> first | (exfalso; omega) | simp -implicitDefEqProofs only [go_sem, hd] | skip) | refine vzt ?_ | refine vzf ?_ | refine vsb ?_ | refine vzb ?_ | refine vzq ?_ | simp -implicitDefEqProofs only [go_sem, hw2])
     exact ⟨j2 + 1, by dsimp only; omega, ⟨by omega, g0, hat⟩, by (repeat' (first | exact trivial | refine ⟨rfl, ?_⟩))⟩
   ·obtain rfl : j2 = l.length := by omega
    rw [List.take_length] at h0
    rw [h0] at hsm; cases hsm
  ·(repeat' first | ((first | refine vy1 ?_ ?_ | refine vy2 ?_ ?_ | refine vy3 ?_ ?_) <;> rintro ⟨hd, hq⟩ <;> first | (exfalso; omega) | simp -implicitDefEqProofs only [go_sem, hd] | skip) | refine vzt ?_ | refine vzf ?_ | refine vsb ?_ | refine vzb ?_ | refine vzq ?_ | simp -implicitDefEqProofs only [go_sem, g0, kS, cS, iS, dcf hk19])
   exact ret_bool rfl
theorem callsC : ∀ {x : Ex} {w : WD} {v F : AVal} {l : List Fc} {fels : List AVal}, IsEx x v → IsD 3 F fels → IsFcs l fels → fels.length ≤ 281474976710656 → callsE l x = true → GivesV (EE w) 33 [v, F] (AVal.sc (Value.bool (true)))
 | .mk _ _ _ xs, _, _, _, _, _, h, h1, h2, h3, h4 => callsStep h h1 h2 h3 h4 fun x hx _ _ h h5 => callsC (x := x) h h1 h2 h3 h5
termination_by x => sizeOf x
decreasing_by have := List.sizeOf_lt_of_mem hx; simp only [Ex.mk.sizeOf_spec]; omega
set_option maxHeartbeats 8000000 in
theorem allCStep {xs : List St} {w : WD} {L F : AVal} {els : List AVal} {l : List Fc} {fels : List AVal} (hL : IsD 8 L els) (hx : IsSts xs els) (hlen : els.length ≤ 281474976710656) (hF : IsD 3 F fels) (hl : IsFcs l fels) (lf : fels.length ≤ 281474976710656) (hc : callsSs l xs = true)
  (rec : ∀ x ∈ xs, ∀ (ys : List St), (∀ k nm v b e, x = .mk k nm v b e → ys = b ∨ ys = e) → ∀ (w : WD) (L : AVal) (els : List AVal), IsD 8 L els → IsSts ys els → els.length ≤ 281474976710656 → callsSs l ys = true →
   GivesV (EE w) 16 [L, F] (AVal.sc (Value.bool (true)))) : GivesV (EE w) 16 [L, F] (AVal.sc (Value.bool (true))) := by
 have hln := hx.len
 have hLn := fun σ : AStore => hL.lenN hln (σ := σ)
 refine GivesV.of (fun _ => .sc _) (.cons _ _ (hL.wf hx.wf) (.cons _ _ (hF.wf hl.wf) .nil)) 1 ?_
 refine of_16 rfl rfl rfl (by kernel_rfl) ?_
 simp -implicitDefEqProofs only [go_sem]
 refine vlp (ι := Nat) (fun j => [(0, L), (1, F), (5, (.sc (.int .i64 (j))))]) (fun j _ => j ≤ xs.length) (fun j => xs.length - j) (fun _ => rfl) 0 ?_ ?_ ?_
 ·(repeat' (first | exact trivial | refine ⟨rfl, ?_⟩))
 ·exact Nat.zero_le _
 rintro j τ hj
 simp -implicitDefEqProofs only [go_sem, hLn]
 ((first | refine vz2 ?_ ?_ | refine vz3 ?_ ?_) <;> intro hlt)
 ·obtain ⟨x, hx1⟩ : ∃ x, xs[j]? = some x := ⟨xs[j]'(by omega), by simp⟩
  obtain ⟨e, he, hxe⟩ := hx.at hx1
  have hmem := List.mem_of_getElem? hx1
  have hcx := callsSs_at hc hx1
  obtain ⟨k, nm, v, body, els2⟩ := x
  simp only [callsS, Bool.and_eq_true] at hcx
  simp only [IsSt] at hxe
  obtain ⟨SA, SB, SE, ea, eb, ee, rfl, hA, ha, hB, hb, hE, hee, h1, h2, h3, h4, h5, h6, h7, h8⟩ := hxe
  have hvx := ex_of hA ha h2 h3 h5 h6
  have kA := hA.fit
  have cA := hA.cells
  have iA := hA.isCell
  have hw := wrapS (i := j) (by omega)
  (repeat' first | ((first | refine vy1 ?_ ?_ | refine vy2 ?_ ?_ | refine vy3 ?_ ?_) <;> rintro ⟨hd, hq⟩ <;> first | (exfalso; omega) | simp -implicitDefEqProofs only [go_sem, hd] | skip) | refine vzt ?_ | refine vzf ?_ | refine vsb ?_ | refine vzb ?_ | refine vzq ?_ | simp -implicitDefEqProofs only [go_sem, hL.idx he, kA, cA, iA])
  refine (callsC hvx hF hl lf hcx.1.1).use ?_
  (repeat' first | ((first | refine vy1 ?_ ?_ | refine vy2 ?_ ?_ | refine vy3 ?_ ?_) <;> rintro ⟨hd, hq⟩ <;> first | (exfalso; omega) | simp -implicitDefEqProofs only [go_sem, hd] | skip) | refine vzt ?_ | refine vzf ?_ | refine vsb ?_ | refine vzb ?_ | refine vzq ?_ | simp -implicitDefEqProofs only [go_sem, hL.idx he, kA, cA, iA])
  refine (rec _ hmem body (fun _ _ _ _ _ h => by cases h; exact .inl rfl) _ SB eb hB hb h7 hcx.1.2).use ?_
  (repeat' first | ((first | refine vy1 ?_ ?_ | refine vy2 ?_ ?_ | refine vy3 ?_ ?_) <;> rintro ⟨hd, hq⟩ <;> first | (exfalso; omega) | simp -implicitDefEqProofs only [go_sem, hd] | skip) | refine vzt ?_ | refine vzf ?_ | refine vsb ?_ | refine vzb ?_ | refine vzq ?_ | simp -implicitDefEqProofs only [go_sem, hL.idx he, kA, cA, iA])
  refine (rec _ hmem els2 (fun _ _ _ _ _ h => by cases h; exact .inr rfl) _ SE ee hE hee h8 hcx.2).use ?_
  (repeat' first | ((first | refine vy1 ?_ ?_ | refine vy2 ?_ ?_ | refine vy3 ?_ ?_) <;> rintro ⟨hd, hq⟩ <;> first | (exfalso; omega) | simp -implicitDefEqProofs only [go_sem, hd] | skip) | refine vzt ?_ | refine vzf ?_ | refine vsb ?_ | refine vzb ?_ | refine vzq ?_ | simp -implicitDefEqProofs only [go_sem, hw])
  exact ⟨j + 1, by dsimp only; omega, by dsimp only; omega, by (repeat' (first | exact trivial | refine ⟨rfl, ?_⟩))⟩
 ·(repeat' first | ((first | refine vy1 ?_ ?_ | refine vy2 ?_ ?_ | refine vy3 ?_ ?_) <;> rintro ⟨hd, hq⟩ <;> first | (exfalso; omega) | simp -implicitDefEqProofs only [go_sem, hd] | skip) | refine vzt ?_ | refine vzf ?_ | refine vsb ?_ | refine vzb ?_ | refine vzq ?_ | simp -implicitDefEqProofs only [go_sem])
  exact ret_bool rfl
theorem allCC : ∀ {N : Nat} {xs : List St} {w : WD} {L F : AVal} {els : List AVal} {l : List Fc} {fels : List AVal}, nodesSs xs ≤ N → IsD 8 L els → IsSts xs els → els.length ≤ 281474976710656 → IsD 3 F fels → IsFcs l fels → fels.length ≤ 281474976710656 → callsSs l xs = true → GivesV (EE w) 16 [L, F] (AVal.sc (Value.bool (true)))
  | 0, xs, w, L, F, els, l, fels, hN, hL, hx, hln, hF, hl, lf, hc => allCStep hL hx hln hF hl lf hc fun x hx => by
      obtain ⟨j, hj⟩ := List.getElem?_of_mem hx
      have h1 := nodesS_at hj
      obtain ⟨k, nm, v, b, e⟩ := x
      have := nodesE_pos v
      simp only [nodesS] at h1
      omega
  | N + 1, xs, w, L, F, els, l, fels, hN, hL, hx, hln, hF, hl, lf, hc => allCStep hL hx hln hF hl lf hc fun x hx ys hy w L els a b' c d => by
      obtain ⟨j, hj⟩ := List.getElem?_of_mem hx
      have h1 := nodesS_at hj
      obtain ⟨k, nm, v, b, e⟩ := x
      have := nodesE_pos v
      simp only [nodesS] at h1
      rcases hy _ _ _ _ _ rfl with rfl | rfl
      · exact allCC (N := N) (by omega) a b' c hF hl lf d
      · exact allCC (N := N) (by omega) a b' c hF hl lf d
theorem IsFcs.snoc {fs : List Fc} {els : List AVal} {f : Fc} {e : AVal} (hs : IsFcs fs els) (h : IsFc f e) : IsFcs (fs ++ [f]) (els ++ [e]) where
 len := by simp [hs.len]
 at' := fun j g hj => by
  rw [List.getElem?_append] at hj
  split at hj
  ·rename_i hlt
   obtain ⟨y, hy, hg⟩ := hs.at' j g hj
   refine ⟨y, ?_, hg⟩
   rw [List.getElem?_append, if_pos (by rw [hs.len]; exact hlt)]; exact hy
  ·rename_i hge
   have : j - fs.length = 0 := by
    rcases Nat.eq_zero_or_pos (j - fs.length) with h' | h'
    ·exact h'
    ·rw [List.getElem?_eq_none (by simp; omega)] at hj; cases hj
   rw [this] at hj
   simp at hj
   subst hj
   have hjl := hs.len
   have hj3 : j = els.length := by omega
   subst hj3
   exact ⟨e, by simp, h⟩
/-- A list in local memory that is lent. -/
theorem lentL {E : Env} (hG : ∀ g, WF 0 (E.G g)) {f : FuncId} {σ : AStore} {b sz : Nat} {els : List AVal} {pre post : List AVal} {v : AVal} (hv : ∃ N, frz empty N v = some v ∧ (∀ τ, frz τ N v = some v ∧ ownV τ N v = true)) (hb : σ.get b = some (.cells sz els)) (h0 : sz ≠ 0) (de : Dats els) (dp : Dats pre) (dq : Dats post)
  (h : GivesV E f (pre ++ .data sz false els :: post) v) : ACalls E f (pre ++ .slice b 0 els.length :: post) σ fun e σ' => σ' = σ ∧ e = .ret v := by
 obtain ⟨N, _, hN⟩ := hv
 obtain ⟨N1, h1⟩ := Dats.frz (σ := σ.only [b]) dp
 obtain ⟨N2, h2⟩ := Dats.frz (σ := σ.only [b]) dq
 obtain ⟨N4, h4⟩ := Dats.frz (σ := σ.only [b]) de
 have hs : Abs.frz (σ.only [b]) (N1 + N2 + N4 + 1) (.slice b 0 els.length) = some (.data sz false els) := by
  rw [frz_slice, only_self hb, frzS_cells (by simp [h0]), List.drop_zero, List.take_of_length_le (by simp), h4 _ (by omega)]; rfl
 refine (ACalls.pureT hG (N := N) (h empty) ?_ σ (bs := [b]) (M := N1 + N2 + N4 + 1) (mapO_app (h1 _ (by omega)) (by rw [mapO_cons', hs, h2 _ (by omega)]; rfl))).mono ?_
 ·rintro e σ0 ⟨rfl, rfl⟩
  exact ⟨.ret v, by simp [frzE, (hN _).1], (hN _).2⟩
 ·rintro e σ' ⟨h1, e0, σ0, ⟨rfl, rfl⟩, h3⟩
  simp only [frzE, (hN _).1, Option.some.injEq] at h3
  exact ⟨h1, h3.symm⟩
theorem ACalls.use1E {E : Env} {f : FuncId} {args : List AVal} {v : AVal} {σ : AStore} (h : ACalls E f args σ fun e σ' => σ' = σ ∧ e = .ret v) {K : SPred} {k : Ev → Bool → AStore → Prop} {e : Ev} {dst : Option Nat} {m : Nat} {recs : List SRec} {q : Bool}
  (hk : sRecs E m σ recs ∧ k (putE e dst v) false σ) : ACalls E f args σ (dRet E m K k recs e dst q σ) := by
 refine h.mono ?_
 rintro en σ' ⟨rfl, rfl⟩
 exact .inr hk
theorem greatF_one {m : Fc} (h : greatF 5000 [m] 5000 = false) : nodesSs m.body ≤ 5000 := by
 have := (greatF_nodes h).2.1
 simp [nodesF] at this
 omega
set_option maxHeartbeats 16000000 in
theorem lawOrder {w : WD} {g : List ByteArray} {fs : List Fc} {m : Fc} {S L M : AVal} {els : List AVal} (hS : IsD 1 S (g.map sA)) (lg : g.length ≤ 281474976710656) (hs : ∀ s ∈ g, s.size ≤ 281474976710656)
    (hL : IsD 3 L els) (hl : IsFcs fs els) (hlen : els.length ≤ 281474976710656) (hM : IsFc m M) (awake : ∀ w : World, Gives (EE ⟨w, []⟩) 6 [] fun v => v = .sc (.bool true)) :
    ACalls (EE w) 4 [S, L, M] empty fun e _ => e = .ret (.sc (.bool true)) := by
  obtain ⟨c1, c2, c3⟩ := hM.isA.facts
  have cc := hM.cellsOk
  have hfit : M.fit = true := by obtain ⟨cs, rfl, _⟩ := hM.isA; rfl
  have hll := hl.len
  have hLn : ∀ σ : AStore, aLen (.slice 0) L σ = some (.sc (.int .i64 (fs.length))) := fun σ => hL.lenN hll
  have hX0 : IsEx (.mk 0 ⟨#[]⟩ 0 []) (.agg [(.sc (.int .i64 (0))), .sc (.string ⟨#[]⟩), (.sc (.int .i64 (0))), (AVal.sc (Value.slice none 0 0))]) := by
    simp only [IsEx]
    exact ⟨_, [], rfl, .inl ⟨rfl, _, _, rfl⟩, rfl, ⟨by decide, by decide⟩, ⟨by decide, by decide⟩, by decide, by simp⟩
  have vb : ∀ i : Bool, ∃ N, frz empty N (AVal.sc (Value.bool (i))) = some (AVal.sc (Value.bool (i))) ∧ (∀ τ, frz τ N (AVal.sc (Value.bool (i))) = some (AVal.sc (Value.bool (i))) ∧ ownV τ N (AVal.sc (Value.bool (i))) = true) := fun i => ⟨1, rfl, fun _ => ⟨rfl, rfl⟩⟩
  have vt : ∀ i j : Int, ∃ N, frz empty N (.tuple [(.sc (.int .i64 (i))), (.sc (.int .i64 (j)))]) = some (.tuple [(.sc (.int .i64 (i))), (.sc (.int .i64 (j)))]) ∧ (∀ τ, frz τ N (.tuple [(.sc (.int .i64 (i))), (.sc (.int .i64 (j)))]) = some (.tuple [(.sc (.int .i64 (i))), (.sc (.int .i64 (j)))]) ∧ ownV τ N (.tuple [(.sc (.int .i64 (i))), (.sc (.int .i64 (j)))]) = true) := fun i j => ⟨2, rfl, fun _ => ⟨rfl, rfl⟩⟩
  refine of_4 rfl rfl rfl (by kernel_rfl) ?_
  simp -implicitDefEqProofs only [go_sem, c1, c2, c3, cc, hfit]
  have g0 : (empty.alloc (.cells 3 [M])).get 0 = some (.cells 3 [M]) := by rw [AStore.get_alloc]; rfl
  generalize empty.alloc (.cells 3 [M]) = τ at g0 ⊢
  refine (awake _).use ?_
  rintro _ rfl
  (repeat' first | ((first | refine vy1 ?_ ?_ | refine vy2 ?_ ?_ | refine vy3 ?_ ?_) <;> rintro ⟨hd, hq⟩ <;> first | (exfalso; omega) | simp -implicitDefEqProofs only [go_sem, hd] | skip) | refine vzt ?_ | refine vzf ?_ | refine vsb ?_ | refine vzb ?_ | refine vzq ?_ | simp -implicitDefEqProofs only [go_sem, g0, c1, c2, c3, cc, hfit])
  refine (beyondC hX0 hS lg hs hL hl hlen).use ?_
  cases hb : beyondB (.mk 0 ⟨#[]⟩ 0 []) g fs with
  | true =>
    (repeat' first | ((first | refine vy1 ?_ ?_ | refine vy2 ?_ ?_ | refine vy3 ?_ ?_) <;> rintro ⟨hd, hq⟩ <;> first | (exfalso; omega) | simp -implicitDefEqProofs only [go_sem, hd] | skip) | refine vzt ?_ | refine vzf ?_ | refine vsb ?_ | refine vzb ?_ | refine vzq ?_ | simp -implicitDefEqProofs only [go_sem, hb])
  | false =>
    obtain ⟨b1, b2, b3, b4, b5⟩ := beyond_not hb
    (repeat' first | ((first | refine vy1 ?_ ?_ | refine vy2 ?_ ?_ | refine vy3 ?_ ?_) <;> rintro ⟨hd, hq⟩ <;> first | (exfalso; omega) | simp -implicitDefEqProofs only [go_sem, hd] | skip) | refine vzt ?_ | refine vzf ?_ | refine vsb ?_ | refine vzb ?_ | refine vzq ?_ | simp -implicitDefEqProofs only [go_sem, hb, g0, c1, c2, c3, cc, hfit])
    have hpos := AStore.lt_of_get g0
    have hM1 : IsFcs [m] [M] := IsFcs.cons hM IsFcs.nil
    refine (lentL (pre := []) (post := [(.sc (.int .i64 (5000)))]) (els := [M]) (fun _ => .sc _) (vb _) (by rw [AStore.get_alloc, if_pos rfl]) (by decide) (.cons _ _ hM.dat .nil) .nil (.cons _ _ (.sc _) .nil) (greatFC (most := 5000) (.inr ⟨_, rfl⟩) hM1 (by simp) (by omega))).use1 ?_
    have g0' : (τ.alloc (.cells 3 [M])).get 0 = some (.cells 3 [M]) := get_alloc_old g0
    generalize τ.alloc (.cells 3 [M]) = τ1 at g0' ⊢
    clear g0 hpos
    cases hgr : greatF 5000 [m] 5000 with
    | true =>
      (repeat' first | ((first | refine vy1 ?_ ?_ | refine vy2 ?_ ?_ | refine vy3 ?_ ?_) <;> rintro ⟨hd, hq⟩ <;> first | (exfalso; omega) | simp -implicitDefEqProofs only [go_sem, hd] | skip) | refine vzt ?_ | refine vzf ?_ | refine vsb ?_ | refine vzb ?_ | refine vzq ?_ | simp -implicitDefEqProofs only [go_sem, hgr])
    | false =>
      have hmb := greatF_one hgr
      (repeat' first | ((first | refine vy1 ?_ ?_ | refine vy2 ?_ ?_ | refine vy3 ?_ ?_) <;> rintro ⟨hd, hq⟩ <;> first | (exfalso; omega) | simp -implicitDefEqProofs only [go_sem, hd] | skip) | refine vzt ?_ | refine vzf ?_ | refine vsb ?_ | refine vzb ?_ | refine vzq ?_ | simp -implicitDefEqProofs only [go_sem, hgr])
      refine (tFuncsC hL hl hlen (by omega) hS lg).use ?_
      by_cases hok : (funcsP nameB fs g).2 = 0
      · (repeat' first | ((first | refine vy1 ?_ ?_ | refine vy2 ?_ ?_ | refine vy3 ?_ ?_) <;> rintro ⟨hd, hq⟩ <;> first | (exfalso; omega) | simp -implicitDefEqProofs only [go_sem, hd] | skip) | refine vzt ?_ | refine vzf ?_ | refine vsb ?_ | refine vzb ?_ | refine vzq ?_ | simp -implicitDefEqProofs only [go_sem, dct hok])
        refine vlp (ι := Nat) (fun j => [(0, S), (1, L), (5, .ptr 0 0 0), (9, (.sc (.int .i64 (j))))]) (fun j τ => j ≤ fs.length ∧ τ.get 0 = some (.cells 3 [M])) (fun j => fs.length - j) (fun _ => rfl) 0 ?_ ?_ ?_
        · (repeat' (first | exact trivial | refine ⟨rfl, ?_⟩))
        · exact ⟨Nat.zero_le _, g0'⟩
        clear g0'
        rintro j τ ⟨hj, g0⟩
        simp -implicitDefEqProofs only [go_sem, hLn]
        ((first | refine vz2 ?_ ?_ | refine vz3 ?_ ?_) <;> intro hlt)
        · obtain ⟨f, hf⟩ : ∃ f, fs[j]? = some f := ⟨fs[j]'(by omega), by simp⟩
          obtain ⟨e, he, hfe⟩ := hl.at' j f hf
          obtain ⟨SP, SB, eb, rfl, hP, hB, hb', h1, h2, h3, h4⟩ := hfe
          obtain ⟨F, hF1, hF2⟩ := hL.take (k := j) (by omega)
          have hcs := order_calls nameB hok hf
          have hot := order_take nameB hok j
          have hnt := nodesF_take fs j
          have hw := wrapS (i := j) (by omega)
          have hFl := hl.take j
          have hFlen : (els.take j).length ≤ 281474976710656 := by rw [List.length_take]; omega
          (repeat' first | ((first | refine vy1 ?_ ?_ | refine vy2 ?_ ?_ | refine vy3 ?_ ?_) <;> rintro ⟨hd, hq⟩ <;> first | (exfalso; omega) | simp -implicitDefEqProofs only [go_sem, hd] | skip) | refine vzt ?_ | refine vzf ?_ | refine vsb ?_ | refine vzb ?_ | refine vzq ?_ | simp -implicitDefEqProofs only [go_sem])
          ((try (refine Z_seq ?_; (try simp -implicitDefEqProofs only [go_sem]))); refine Z_draw (by kernel_rfl) [0, 1, 2, 3, 4, 5, 6, 7, 8, 9] [(9, 511), (8, 255), (7, 96), (6, 0), (5, 0), (4, 15), (3, 7), (2, 3), (1, 0), (0, 0)] (by kernel_rfl) (by kernel_rfl) ?_)
          simp -implicitDefEqProofs only [go_sem, hL.idx he, hF1]
          refine (allCC (Nat.le_refl _) hB hb' h4 hF2 hFl hFlen hcs).useD ?_
          simp -implicitDefEqProofs only [go_sem]
          (repeat' first | ((first | refine vy1 ?_ ?_ | refine vy2 ?_ ?_ | refine vy3 ?_ ?_) <;> rintro ⟨hd, hq⟩ <;> first | (exfalso; omega) | simp -implicitDefEqProofs only [go_sem, hd] | skip) | refine vzt ?_ | refine vzf ?_ | refine vsb ?_ | refine vzb ?_ | refine vzq ?_ | simp -implicitDefEqProofs only [go_sem, hF1])
          refine (tFuncsC hF2 hFl hFlen (by omega) hS lg).use ?_
          (repeat' first | ((first | refine vy1 ?_ ?_ | refine vy2 ?_ ?_ | refine vy3 ?_ ?_) <;> rintro ⟨hd, hq⟩ <;> first | (exfalso; omega) | simp -implicitDefEqProofs only [go_sem, hd] | skip) | refine vzt ?_ | refine vzf ?_ | refine vsb ?_ | refine vzb ?_ | refine vzq ?_ | simp -implicitDefEqProofs only [go_sem, dct hot, hw])
          exact ⟨j + 1, by dsimp only; omega, ⟨by omega, g0⟩, by (repeat' (first | exact trivial | refine ⟨rfl, ?_⟩))⟩
        · obtain rfl : j = fs.length := by omega
          have hpos := AStore.lt_of_get g0
          have hsrc := fun σ : AStore => hL.src (σ := σ)
          have hfin := order_more nameB hok m
          have hmore := hl.snoc hM
          have hmlen : (els ++ [M]).length ≤ 281474976710656 := by simp; omega
          have hmn : nodesF (fs ++ [m]) ≤ 1099511627776 := by simp [nodesF] at b3 ⊢; omega
          have dmore := hmore.dat
          (repeat' first | ((first | refine vy1 ?_ ?_ | refine vy2 ?_ ?_ | refine vy3 ?_ ?_) <;> rintro ⟨hd, hq⟩ <;> first | (exfalso; omega) | simp -implicitDefEqProofs only [go_sem, hd] | skip) | refine vzt ?_ | refine vzf ?_ | refine vsb ?_ | refine vzb ?_ | refine vzq ?_ | simp -implicitDefEqProofs only [go_sem])
          ((try (refine Z_seq ?_; (try simp -implicitDefEqProofs only [go_sem]))); refine Z_draw (by kernel_rfl) [0, 1, 3, 4, 6, 2, 5, 7, 8, 9, 10, 11, 12] [(12, 4095), (11, 1023), (10, 511), (9, 511), (8, 255), (7, 127), (5, 31), (2, 3), (6, 0), (4, 8), (3, 0), (1, 0), (0, 0)] (by kernel_rfl) (by kernel_rfl) ?_)
          have bc : allCells [M] = true := by unfold Abs.allCells; rw [List.all_cons, cc]; rfl
          cases hec : els with
          | nil =>
              rw [hec] at hsrc hmore hmlen dmore
              have e1 := app_lit (sz := 3) (bytes := 64) (y := M) (ys := []) (σ := τ) (by decide) (by decide)
              simp -implicitDefEqProofs only [go_sem, g0, c1, c2, c3, cc, hfit, hsrc, app_lit0, e1]
              have hne : ¬ 0 = τ.next := by omega
              have hpos2 : 0 < τ.next + 1 := by omega
              have hlent := lentL (E := EE ⟨w.w, []⟩) (f := 9) (σ := τ.alloc (.cells 3 [M])) (pre := []) (post := [S]) (els := [M]) (fun _ => .sc _) (vt _ _) (by rw [AStore.get_alloc, if_pos rfl]) (by decide) dmore .nil (.cons _ _ (hS.dat (dats_sA _)) .nil) (tFuncsC (.inr ⟨_, rfl⟩) hmore hmlen hmn hS lg)
              refine hlent.use1E ⟨by simp -implicitDefEqProofs only [go_sem, g0, c1, c2, c3, cc, hfit, hsrc, hne, hpos2], ?_⟩
              simp -implicitDefEqProofs only [go_sem]
              by_cases h0 : (funcsP nameB (fs ++ [m]) g).2 = 0
              · simp -implicitDefEqProofs only [go_sem, dct h0]
                (repeat' first | ((first | refine vy1 ?_ ?_ | refine vy2 ?_ ?_ | refine vy3 ?_ ?_) <;> rintro ⟨hd, hq⟩ <;> first | (exfalso; omega) | simp -implicitDefEqProofs only [go_sem, hd] | skip) | refine vzt ?_ | refine vzf ?_ | refine vsb ?_ | refine vzb ?_ | refine vzq ?_ | simp -implicitDefEqProofs only [go_sem, dct h0])
              · by_cases h1 : (funcsP nameB (fs ++ [m]) g).1 = (fs.length : Int)
                · simp -implicitDefEqProofs only [go_sem, dcf h0, dct h1, hLn]
                  (repeat' first | ((first | refine vy1 ?_ ?_ | refine vy2 ?_ ?_ | refine vy3 ?_ ?_) <;> rintro ⟨hd, hq⟩ <;> first | (exfalso; omega) | simp -implicitDefEqProofs only [go_sem, hd] | skip) | refine vzt ?_ | refine vzf ?_ | refine vsb ?_ | refine vzb ?_ | refine vzq ?_ | simp -implicitDefEqProofs only [go_sem, dcf h0, dct h1, hLn])
                · rcases hfin with hf | hf | ⟨hf1, hf2⟩
                  · exact absurd hf h0
                  · exact absurd hf h1
                  · by_cases h2 : (funcsP nameB (fs ++ [m]) g).2 = 2
                    · simp -implicitDefEqProofs only [go_sem, dcf h0, dcf h1, dct hf1, dct h2, hLn]
                      (repeat' first | ((first | refine vy1 ?_ ?_ | refine vy2 ?_ ?_ | refine vy3 ?_ ?_) <;> rintro ⟨hd, hq⟩ <;> first | (exfalso; omega) | simp -implicitDefEqProofs only [go_sem, hd] | skip) | refine vzt ?_ | refine vzf ?_ | refine vsb ?_ | refine vzb ?_ | refine vzq ?_ | simp -implicitDefEqProofs only [go_sem, dcf h0, dcf h1, dct hf1, dct h2, hLn])
                    · have h3 : (funcsP nameB (fs ++ [m]) g).2 = 3 := by rcases hf2 with h | h; exact absurd h h2; exact h
                      simp -implicitDefEqProofs only [go_sem, dcf h0, dcf h1, dct hf1, dcf h2, dct h3, hLn]
                      (repeat' first | ((first | refine vy1 ?_ ?_ | refine vy2 ?_ ?_ | refine vy3 ?_ ?_) <;> rintro ⟨hd, hq⟩ <;> first | (exfalso; omega) | simp -implicitDefEqProofs only [go_sem, hd] | skip) | refine vzt ?_ | refine vzf ?_ | refine vsb ?_ | refine vzb ?_ | refine vzq ?_ | simp -implicitDefEqProofs only [go_sem, dcf h0, dcf h1, dct hf1, dcf h2, dct h3, hLn])
          | cons y ys =>
              rw [hec] at hsrc hmore hmlen dmore
              have hys : ys.length + 1 ≤ 5000 := by rw [hec] at hll; simp at hll; omega
              have e1 := app_lit (sz := 3) (bytes := 64) (y := y) (ys := ys) (σ := τ) (by omega) (by decide)
              obtain ⟨σ', a1, a2, a3, a4⟩ := (show Own (τ.alloc (.cells 3 (y :: ys))) 3 (.slice τ.next 0 (ys.length + 1)) (y :: ys) from .inr ⟨by simp, τ.next, by simp, by rw [AStore.get_alloc, if_pos rfl]⟩).append (bytes := 64) (xs := [M]) (by simp) (by simp; omega) (by decide) (by decide) bc
              have hne : ¬ 0 = τ.next := by omega
              have g0' := a4 0 _ (get_alloc_old g0) (fun l hl => by injection hl; omega)
              have hpos' := AStore.lt_of_get g0'
              have hgm : σ'.get (τ.next + 1) = some (.cells 3 (y :: ys ++ [M])) := by
                rcases a2 with ⟨h, _⟩ | ⟨_, b, hb, hg⟩
                · simp at h
                · simp only [AVal.slice.injEq] at hb
                  obtain ⟨rfl, _⟩ := hb
                  simpa [alloc_next] using hg
              simp -implicitDefEqProofs only [go_sem, g0, c1, c2, c3, cc, hfit, hsrc, app_lit0, e1, a1, hne]
              have hlent := lentL (E := EE ⟨w.w, []⟩) (f := 9) (pre := []) (post := [S]) (els := y :: ys ++ [M]) (fun _ => .sc _) (vt _ _) hgm (by decide) dmore .nil (.cons _ _ (hS.dat (dats_sA _)) .nil) (tFuncsC (.inr ⟨_, rfl⟩) hmore hmlen hmn hS lg)
              rw [show (y :: ys ++ [M]).length = ys.length + 1 + 1 by simp] at hlent
              refine hlent.use1E ⟨by simp -implicitDefEqProofs only [go_sem, g0', c1, c2, c3, cc, hfit, hsrc, hpos'], ?_⟩
              simp -implicitDefEqProofs only [go_sem]
              by_cases h0 : (funcsP nameB (fs ++ [m]) g).2 = 0
              · simp -implicitDefEqProofs only [go_sem, dct h0]
                (repeat' first | ((first | refine vy1 ?_ ?_ | refine vy2 ?_ ?_ | refine vy3 ?_ ?_) <;> rintro ⟨hd, hq⟩ <;> first | (exfalso; omega) | simp -implicitDefEqProofs only [go_sem, hd] | skip) | refine vzt ?_ | refine vzf ?_ | refine vsb ?_ | refine vzb ?_ | refine vzq ?_ | simp -implicitDefEqProofs only [go_sem, dct h0])
              · by_cases h1 : (funcsP nameB (fs ++ [m]) g).1 = (fs.length : Int)
                · simp -implicitDefEqProofs only [go_sem, dcf h0, dct h1, hLn]
                  (repeat' first | ((first | refine vy1 ?_ ?_ | refine vy2 ?_ ?_ | refine vy3 ?_ ?_) <;> rintro ⟨hd, hq⟩ <;> first | (exfalso; omega) | simp -implicitDefEqProofs only [go_sem, hd] | skip) | refine vzt ?_ | refine vzf ?_ | refine vsb ?_ | refine vzb ?_ | refine vzq ?_ | simp -implicitDefEqProofs only [go_sem, dcf h0, dct h1, hLn])
                · rcases hfin with hf | hf | ⟨hf1, hf2⟩
                  · exact absurd hf h0
                  · exact absurd hf h1
                  · by_cases h2 : (funcsP nameB (fs ++ [m]) g).2 = 2
                    · simp -implicitDefEqProofs only [go_sem, dcf h0, dcf h1, dct hf1, dct h2, hLn]
                      (repeat' first | ((first | refine vy1 ?_ ?_ | refine vy2 ?_ ?_ | refine vy3 ?_ ?_) <;> rintro ⟨hd, hq⟩ <;> first | (exfalso; omega) | simp -implicitDefEqProofs only [go_sem, hd] | skip) | refine vzt ?_ | refine vzf ?_ | refine vsb ?_ | refine vzb ?_ | refine vzq ?_ | simp -implicitDefEqProofs only [go_sem, dcf h0, dcf h1, dct hf1, dct h2, hLn])
                    · have h3 : (funcsP nameB (fs ++ [m]) g).2 = 3 := by rcases hf2 with h | h; exact absurd h h2; exact h
                      simp -implicitDefEqProofs only [go_sem, dcf h0, dcf h1, dct hf1, dcf h2, dct h3, hLn]
                      (repeat' first | ((first | refine vy1 ?_ ?_ | refine vy2 ?_ ?_ | refine vy3 ?_ ?_) <;> rintro ⟨hd, hq⟩ <;> first | (exfalso; omega) | simp -implicitDefEqProofs only [go_sem, hd] | skip) | refine vzt ?_ | refine vzf ?_ | refine vsb ?_ | refine vzb ?_ | refine vzq ?_ | simp -implicitDefEqProofs only [go_sem, dcf h0, dcf h1, dct hf1, dcf h2, dct h3, hLn])
      · have hbad := order_bad nameB hok
        (repeat' first | ((first | refine vy1 ?_ ?_ | refine vy2 ?_ ?_ | refine vy3 ?_ ?_) <;> rintro ⟨hd, hq⟩ <;> first | (exfalso; omega) | simp -implicitDefEqProofs only [go_sem, hd] | skip) | refine vzt ?_ | refine vzf ?_ | refine vsb ?_ | refine vzb ?_ | refine vzq ?_ | simp -implicitDefEqProofs only [go_sem, dcf hok, hLn, dct hbad.1])
        have hlt2 := hbad.2
        have hmx : ((funcsP nameB fs g).1 < if (fs.length : Int) > 1 then (fs.length : Int) else 1) := by split <;> omega
        rw [dct hmx]
theorem sh24 : shape Try.prog 24 = .struct [3, 9, 2, 22] := by kernel_rfl
theorem sh22 : shape Try.prog 22 = .slice 24 4 true := by kernel_rfl
theorem sh25 : shape Try.prog 25 = .slice 9 1 false := by kernel_rfl
theorem sh26 : shape Try.prog 26 = .slice 38 3 true := by kernel_rfl
theorem sh38 : shape Try.prog 38 = .struct [9, 25, 36] := by kernel_rfl
theorem sh36 : shape Try.prog 36 = .slice 61 8 true := by kernel_rfl
theorem sh61 : shape Try.prog 61 = .struct [3, 9, 24, 36, 36] := by kernel_rfl
theorem sh3 : shape Try.prog 3 = .int .i64 := by kernel_rfl
theorem sh2 : shape Try.prog 2 = .int .i64 := by kernel_rfl
theorem sh9 : shape Try.prog 9 = .str := by kernel_rfl
theorem by24 : Try.prog.bytesOf 24 = 56 := by kernel_rfl
theorem by9 : Try.prog.bytesOf 9 = 16 := by kernel_rfl
theorem by61 : Try.prog.bytesOf 61 = 128 := by kernel_rfl
theorem by38 : Try.prog.bytesOf 38 = 64 := by kernel_rfl
theorem tw_int {P : Program} {n t : Nat} {vs : List AVal} (hs : shape P t = .int .i64) (h : HasTyW P n t vs) : ∃ m, in64 m ∧ vs = [(.sc (.int .i64 (m)))] := by
 cases n with
 | zero => exact h.elim
 | succ n =>
  unfold HasTyW at h
  rw [hs] at h
  obtain ⟨m, hw, h⟩ := h
  refine ⟨m, ?_, h⟩
  have : (Lit.int .i64 m).wf = true := hw
  simp [Lit.wf, IntKind.min, IntKind.max, IntKind.signed, IntKind.bits] at this
  exact ⟨by omega, by omega⟩
theorem tw_str {P : Program} {n t : Nat} {vs : List AVal} (hs : shape P t = .str) (h : HasTyW P n t vs) : ∃ s : ByteArray, s.size ≤ 281474976710656 ∧ vs = [.sc (.string s)] := by
 cases n with
 | zero => exact h.elim
 | succ n =>
  unfold HasTyW at h
  rw [hs] at h
  obtain ⟨s, hw, h⟩ := h
  exact ⟨s, by omega, h⟩
theorem tw_struct {P : Program} {n t : Nat} {ts : List TypeId} {vs : List AVal} (hs : shape P t = .struct ts) (h : HasTyW P (n + 1) t vs) : HasL (HasTyW P n) P ts vs := by
 unfold HasTyW at h
 rw [hs] at h
 exact h
/-- A slice that came in. -/
theorem tw_slice {P : Program} {n t e c by' : Nat} {agg : Bool} {vs : List AVal} (hs : shape P t = .slice e c agg) (hb : P.bytesOf e = by') (h0 : 0 < by') (h : HasTyW P (n + 1) t vs) :
  ∃ (S : AVal) (els : List AVal), vs = [S] ∧ IsD c S els ∧ els.length ≤ 281474976710656 ∧ ∀ x ∈ els, HasTyW P n e x.cells ∧ x.cells.length = c ∧ x.isAgg = agg := by
 unfold HasTyW at h
 rw [hs] at h
 rcases h with h | ⟨a, c, h⟩ | ⟨els, _, _, hlen, h, hels⟩
 ·exact ⟨_, [], h, .inl ⟨rfl, _, _, rfl⟩, by simp, by simp⟩
 ·exact ⟨_, [], h, .inl ⟨rfl, _, _, rfl⟩, by simp, by simp⟩
 ·rw [hb] at hlen
  exact ⟨_, els, h, .inr ⟨_, rfl⟩, by have := Nat.le_mul_of_pos_right els.length h0; omega, hels⟩
theorem names_of {n : Nat} {els : List AVal} (h : ∀ x ∈ els, HasTyW Try.prog n 9 x.cells ∧ x.cells.length = 1 ∧ x.isAgg = false) : ∃ g : List ByteArray, els = g.map sA ∧ ∀ s ∈ g, s.size ≤ 281474976710656 := by
 induction els with
 | nil => exact ⟨[], rfl, by simp⟩
 | cons x els ih =>
  obtain ⟨g, rfl, hg⟩ := ih fun y hy => h y (by simp [hy])
  obtain ⟨h1, _, h2⟩ := h x (by simp)
  obtain ⟨s, hs, he⟩ := tw_str sh9 h1
  have := one_of h2 he
  subst this
  exact ⟨s :: g, rfl, by intro t ht; rcases List.mem_cons.1 ht with rfl | ht; exact hs; exact hg t ht⟩
theorem is_names {n : Nat} {vs : List AVal} (h : HasTyW Try.prog n 25 vs) : ∃ (S : AVal) (g : List ByteArray), vs = [S] ∧ IsD 1 S (g.map sA) ∧ g.length ≤ 281474976710656 ∧ ∀ s ∈ g, s.size ≤ 281474976710656 := by
 cases n with
 | zero => exact h.elim
 | succ n =>
  obtain ⟨S, els, h1, h2, h3, h4⟩ := tw_slice sh25 by9 (by decide) h
  obtain ⟨g, rfl, hg⟩ := names_of h4
  exact ⟨S, g, h1, h2, by rw [List.length_map] at h3; exact h3, hg⟩
theorem is_ex (n : Nat) : (∀ vs, HasTyW Try.prog n 24 vs → ∃ x, IsEx x (.agg vs)) ∧ (∀ vs, HasTyW Try.prog n 22 vs → ∃ S els xs, vs = [S] ∧ IsD 4 S els ∧ IsExs xs els ∧ els.length ≤ 281474976710656) := by
 induction n with
 | zero => exact ⟨fun vs h => h.elim, fun vs h => h.elim⟩
 | succ n ih =>
  constructor
  ·intro vs h
   obtain ⟨a1, r1, rfl, _, h1, a2, r2, rfl, _, h2, a3, r3, rfl, _, h3, a4, r4, rfl, _, h4, h5⟩ := tw_struct sh24 h
   have h5 : r4 = [] := h5
   subst h5
   obtain ⟨k, hk, rfl⟩ := tw_int sh3 h1
   obtain ⟨s, hs, rfl⟩ := tw_str sh9 h2
   obtain ⟨i, hi, rfl⟩ := tw_int sh2 h3
   obtain ⟨S, els, xs, rfl, hS, hx, hl⟩ := ih.2 _ h4
   refine ⟨.mk k s i xs, ?_⟩
   simp only [IsEx]
   exact ⟨S, els, rfl, hS, hx, hk, hi, hs, hl⟩
  ·intro vs h
   obtain ⟨S, els, h1, h2, h3, h4⟩ := tw_slice sh22 by24 (by decide) h
   have key : ∃ xs, IsExs xs els := by
    clear h2 h3
    induction els with
    | nil => exact ⟨[], rfl⟩
    | cons x els ih2 =>
     obtain ⟨xs, hxs⟩ := ih2 fun y hy => h4 y (by simp [hy])
     obtain ⟨g1, _, g2⟩ := h4 x (by simp)
     obtain ⟨y, hy⟩ := ih.1 _ g1
     rw [← agg_of g2 rfl] at hy
     exact ⟨y :: xs, x, els, rfl, hy, hxs⟩
   obtain ⟨xs, hxs⟩ := key
   exact ⟨S, els, xs, h1, h2, hxs, h3⟩
theorem is_st (n : Nat) : (∀ vs, HasTyW Try.prog n 61 vs → ∃ x, IsSt x (.agg vs)) ∧ (∀ vs, HasTyW Try.prog n 36 vs → ∃ S els xs, vs = [S] ∧ IsD 8 S els ∧ IsSts xs els ∧ els.length ≤ 281474976710656) := by
 induction n with
 | zero => exact ⟨fun vs h => h.elim, fun vs h => h.elim⟩
 | succ n ih =>
  constructor
  ·intro vs h
   obtain ⟨a1, r1, rfl, _, h1, a2, r2, rfl, _, h2, a3, r3, rfl, _, h3, a4, r4, rfl, _, h4, a5, r5, rfl, _, h5, h6⟩ := tw_struct sh61 h
   have h6 : r5 = [] := h6
   subst h6
   obtain ⟨k, hk, rfl⟩ := tw_int sh3 h1
   obtain ⟨s, hs, rfl⟩ := tw_str sh9 h2
   obtain ⟨x, hx⟩ := (is_ex n).1 _ h3
   obtain ⟨SB, eb, xb, rfl, hB, hb, hlb⟩ := ih.2 _ h4
   obtain ⟨SE, ee, xe, rfl, hE, he, hle⟩ := ih.2 _ h5
   obtain ⟨ek, en, ei, ez⟩ := x
   simp only [IsEx] at hx
   obtain ⟨SA, ea, hv, hA, ha, hk2, hi2, hn2, hl2⟩ := hx
   injection hv with hv
   subst hv
   refine ⟨.mk k s (.mk ek en ei ez) xb xe, ?_⟩
   simp only [IsSt]
   exact ⟨SA, SB, SE, ea, eb, ee, rfl, hA, ha, hB, hb, hE, he, hk, hk2, hi2, hs, hn2, hl2, hlb, hle⟩
  ·intro vs h
   obtain ⟨S, els, h1, h2, h3, h4⟩ := tw_slice sh36 by61 (by decide) h
   have key : ∃ xs, IsSts xs els := by
    clear h2 h3
    induction els with
    | nil => exact ⟨[], rfl⟩
    | cons x els ih2 =>
     obtain ⟨xs, hxs⟩ := ih2 fun y hy => h4 y (by simp [hy])
     obtain ⟨g1, _, g2⟩ := h4 x (by simp)
     obtain ⟨y, hy⟩ := ih.1 _ g1
     rw [← agg_of g2 rfl] at hy
     exact ⟨y :: xs, x, els, rfl, hy, hxs⟩
   obtain ⟨xs, hxs⟩ := key
   exact ⟨S, els, xs, h1, h2, hxs, h3⟩
theorem is_fc {n : Nat} {vs : List AVal} (h : HasTyW Try.prog (n + 1) 38 vs) : ∃ f, IsFc f (.agg vs) := by
 obtain ⟨a1, r1, rfl, _, h1, a2, r2, rfl, _, h2, a3, r3, rfl, _, h3, h4⟩ := tw_struct sh38 h
 have h4 : r3 = [] := h4
 subst h4
 obtain ⟨s, hs, rfl⟩ := tw_str sh9 h1
 obtain ⟨SP, ps, rfl, hP, hlp, hsp⟩ := is_names h2
 obtain ⟨SB, eb, xb, rfl, hB, hb, hlb⟩ := (is_st n).2 _ h3
 exact ⟨⟨s, ps, xb⟩, SP, SB, eb, rfl, hP, hB, hb, hs, hsp, hlp, hlb⟩
theorem is_fcs {n : Nat} {vs : List AVal} (h : HasTyW Try.prog n 26 vs) : ∃ (S : AVal) (els : List AVal) (fs : List Fc), vs = [S] ∧ IsD 3 S els ∧ IsFcs fs els ∧ els.length ≤ 281474976710656 := by
 cases n with
 | zero => exact h.elim
 | succ n =>
  obtain ⟨S, els, h1, h2, h3, h4⟩ := tw_slice sh26 by38 (by decide) h
  have key : ∃ fs, IsFcs fs els := by
   clear h2 h3
   induction els with
   | nil => exact ⟨[], rfl, fun j f h => by simp at h⟩
   | cons x els ih2 =>
    obtain ⟨xs, hxs⟩ := ih2 fun y hy => h4 y (by simp [hy])
    obtain ⟨g1, _, g2⟩ := h4 x (by simp)
    cases n with
    | zero => exact g1.elim
    | succ n =>
     obtain ⟨y, hy⟩ := is_fc g1
     rw [← agg_of g2 rfl] at hy
     refine ⟨y :: xs, by simp [hxs.len], fun j f hj => ?_⟩
     cases j with
     | zero => simp at hj; subst hj; exact ⟨x, rfl, hy⟩
     | succ j => simpa using hxs.at' j f (by simpa using hj)
  obtain ⟨fs, hfs⟩ := key
  exact ⟨S, els, fs, h1, h2, hfs, h3⟩
end Abs
end
