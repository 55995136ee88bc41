/-
  Part of the abstract layer (V): values, stores and steps that stand for those of the model, and the proof that they do. It proves no statement by itself.
-/
import Derived.Test.YtmimfnjcnndhpaaGreatAbsU
noncomputable section
namespace Abs
set_option linter.unusedVariables false
set_option linter.unusedSimpArgs false
set_option linter.unusedSectionVars false
open Go

section
variable {E : Env} {ops : Array Oper} {canon : List Nat} {K : APred} {a0 : AAct}

theorem clearAll_le : ∀ (os : List Oper) (a : AAct), (∀ o ∈ os, a.fits o.dst = true) → (clearAll os a).n = a.n ∧ (clearAll os a).defers = a.defers ∧
    ∀ t v, (clearAll os a).tmps.get t = some v → a.tmps.get t = some v ∧ ∀ o ∈ os, o.dst ≠ some t
  | [], a, _ => ⟨rfl, rfl, fun t v h => ⟨h, by simp⟩⟩
  | o :: os, a, hf => by
      obtain ⟨n1, n2⟩ := a.put_n o.dst none
      obtain ⟨h1, h2, h3⟩ := clearAll_le os (a.put o.dst none) (fun o' ho' => by rw [AAct.fits_n n1]; exact hf o' (by simp [ho']))
      refine ⟨h1.trans n1, h2.trans n2, fun t v ht => ?_⟩
      obtain ⟨g1, g2⟩ := h3 t v ht
      rw [AAct.put_get (hf o (by simp))] at g1
      split at g1
      · cases g1
      · rename_i hne
        exact ⟨g1, fun o' ho' => by
          simp at ho'
          rcases ho' with rfl | ho'
          · exact hne
          · exact g2 o' ho'⟩

theorem ready_spec {listed : Array Bool} {L : Nat → Bool} (hl : ∀ i, i < ops.size → listed.getD i true = L i) (hs : listed.size = ops.size) {i : Nat} :
    i ∈ Region.ready .any ops listed ↔ i < ops.size ∧ L i = false ∧ ∀ on ∈ boundAt ops i, on < ops.size ∧ L on = true := by
  unfold Region.ready
  rw [List.mem_filter, List.mem_range]
  constructor
  · rintro ⟨h1, h2⟩
    simp only [Bool.and_eq_true, Bool.not_eq_true'] at h2
    obtain ⟨h2, h3⟩ := h2
    refine ⟨h1, by rw [← hl i h1]; exact h2, ?_⟩
    intro on hon
    have ho : ops[i]? = some ops[i] := Array.getElem?_eq_getElem h1
    rw [ho] at h3
    simp only [Option.map_some, Option.getD_some] at h3
    simp only [boundAt, ho, bound, List.mem_map, List.mem_filter] at hon
    obtain ⟨e, ⟨he1, he2⟩, rfl⟩ := hon
    rw [Array.all_eq_true_iff_forall_mem] at h3
    have := h3 e (by simpa using he1)
    rw [he2] at this
    simp only [Bool.not_true, Bool.false_or] at this
    have hlt : e.on < ops.size := by
      rcases Nat.lt_or_ge e.on ops.size with h | h
      · exact h
      · rw [Array.getD_eq_getD_getElem?, Array.getElem?_eq_none (by omega)] at this; simp at this
    refine ⟨hlt, ?_⟩
    rw [← hl _ hlt, ← this, Array.getD_eq_getD_getElem?, Array.getD_eq_getD_getElem?, Array.getElem?_eq_getElem (by omega)]
    rfl
  · rintro ⟨h1, h2, h3⟩
    refine ⟨h1, ?_⟩
    have ho : ops[i]? = some ops[i] := Array.getElem?_eq_getElem h1
    simp only [hl i h1, h2, Bool.not_false, Bool.true_and, ho, Option.map_some, Option.getD_some]
    rw [Array.all_eq_true_iff_forall_mem]
    intro e he
    by_cases hb : Region.binds .any e = true
    · have hon : e.on ∈ boundAt ops i := by
        simp only [boundAt, ho, bound, List.mem_map, List.mem_filter]
        exact ⟨e, ⟨by simpa using he, hb⟩, rfl⟩
      obtain ⟨g1, g2⟩ := h3 _ hon
      have := hl _ g1
      rw [g2, Array.getD_eq_getD_getElem?, Array.getElem?_eq_getElem (by omega)] at this
      simp only [hb, Bool.not_true, Bool.false_or]
      rw [Array.getD_eq_getD_getElem?, Array.getElem?_eq_getElem (by omega)]
      exact this
    · simp [hb]

theorem first_open {L : Nat → Bool} : ∀ (l : List Nat), (∃ i ∈ l, L i = false) → ∃ p i q, l = p ++ i :: q ∧ L i = false ∧ ∀ x ∈ p, L x = true
  | [], h => by simp at h
  | x :: l, h => by
      cases hx : L x with
      | false => exact ⟨[], x, l, rfl, hx, by simp⟩
      | true =>
        obtain ⟨i, hi, hLi⟩ := h
        simp at hi
        rcases hi with rfl | hi
        · rw [hx] at hLi; cases hLi
        · obtain ⟨p, j, q, h1, h2, h3⟩ := first_open l ⟨i, hi, hLi⟩
          refine ⟨x :: p, j, q, by rw [h1]; rfl, h2, ?_⟩
          intro y hy
          simp at hy
          rcases hy with rfl | hy
          · exact hx
          · exact h3 y hy

theorem filter_withOne {L : Nat → Bool} {i : Nat} (hi : L i = false) : ∀ (l : List Nat), i ∈ l → (l.filter fun k => !(withOne L i k)).length < (l.filter fun k => !(L k)).length := by
  have le : ∀ l : List Nat, (l.filter fun k => !(withOne L i k)).length ≤ (l.filter fun k => !(L k)).length := by
    intro l
    induction l with
    | nil => simp
    | cons x l ih =>
      simp only [List.filter_cons]
      by_cases hx : x = i
      · subst hx
        simp [withOne_self, hi]; omega
      · rw [withOne_ne hx]
        cases L x <;> simp <;> omega
  intro l
  induction l with
  | nil => intro h; simp at h
  | cons x l ih =>
    intro h
    simp only [List.filter_cons]
    by_cases hx : x = i
    · subst hx
      have := le l
      simp [withOne_self, hi]; omega
    · simp at h
      have := ih (h.resolve_left (fun e => hx e.symm))
      rw [withOne_ne hx]
      cases L x <;> simp <;> omega

theorem clearAll_part (hfit : ∀ (i : Nat) (o : Oper), ops[i]? = some o → a0.fits o.dst = true) {L : Nat → Bool} {vals : List Ran} (hents : ∀ r ∈ vals, ∃ o, ops[r.i]? = some o ∧ r.dst = o.dst) :
    (clearAll ops.toList a0).Le (part L vals a0) := by
  have hf0 : ∀ o ∈ ops.toList, a0.fits o.dst = true := by
    intro o ho
    obtain ⟨k, hk, rfl⟩ := List.mem_iff_getElem.1 ho
    exact hfit k _ (by simp at hk; simp [hk])
  have hf1 : ∀ r ∈ vals, a0.fits r.dst = true := by
    intro r hr
    obtain ⟨o', h1, h2⟩ := hents r hr
    rw [h2]; exact hfit _ _ h1
  obtain ⟨h1, h2, h3⟩ := clearAll_le ops.toList a0 hf0
  obtain ⟨n1, n2⟩ := part_n L vals a0
  refine ⟨by rw [h1, n1], by rw [h2, n2], fun t v ht => ?_⟩
  obtain ⟨g1, g2⟩ := h3 t v ht
  rw [part_get _ _ _ _ hf1, lastW_none]
  · exact g1
  · intro r hr hd
    obtain ⟨o', q1, q2⟩ := hents r hr
    exact absurd (q2.symm.trans hd) (g2 o' (by
      have := Array.mem_of_getElem? q1
      simpa using this))

theorem ev_same {a b : AAct} {o : Oper} {G : Nat → AVal} (h : ∀ t ∈ readsOf ops o, a.tmps.get t = b.tmps.get t) : ∀ x ∈ o.op.operands.toList, a.ev G x = b.ev G x := by
  intro x hx
  cases x with
  | tmp t => exact h t (by simp only [readsOf, List.mem_append, List.mem_filterMap]; exact .inl ⟨_, hx, rfl⟩)
  | _ => rfl

theorem yield_same {a b : AAct} {o : Oper} {j : Nat} {want : Bool} (hg : o.guard = some (j, want)) (h : ∀ t ∈ readsOf ops o, a.tmps.get t = b.tmps.get t) : aYield ops a j = aYield ops b j := by
  unfold aYield
  cases hd : (ops[j]?).bind (·.dst) with
  | none => rfl
  | some t =>
    simp only []
    rw [h t (by simp only [readsOf, guardTmp, hg, hd, List.mem_append]; exact .inr (by simp))]

theorem DInv.ents' {L : Nat → Bool} {pre suf : List Nat} {vals : List Ran} {recs : List Rec} {σ : AStore} (h : DInv E ops canon K a0 L pre suf vals recs σ) : ∀ r ∈ vals, ∃ o, ops[r.i]? = some o ∧ r.dst = o.dst := by
  intro r hr
  obtain ⟨v1, v2, hv⟩ := List.append_of_mem hr
  obtain ⟨o, h1, h2, _⟩ := h.ents v1 r v2 hv
  exact ⟨o, h1, h2⟩

theorem draw_fin (hok : DOk E ops canon) {n0 : Nat} {ι0 : Inj} {H0 : Imm} {L : Nat → Bool} {pre suf : List Nat} {vals : List Ran} {recs : List Rec} {σ : AStore} {ι : Inj} {H : Imm} {w : World} {ac : Act}
    (hinv : DInv E ops canon K a0 L pre suf vals recs σ) (hset : Settled E ops suf) (hR : Rel E ι H σ w) (ha : ActRel σ.next ι H (part L vals a0) ac) (he : Ext n0 ι0 H0 σ.next ι H)
    (hall : ∀ i ∈ canon, L i = true) : APost E n0 ι0 H0 K .normal ac w := by
  have hs : suf = [] := by
    rcases hset with h | ⟨e, s, h, _⟩
    · exact h
    · subst h
      have := hinv.inpre e (hall e (by rw [hinv.split]; simp))
      exact absurd this (hok.nodup hinv.split).1
  subst hs
  have hp : part L vals a0 = part everyOne vals a0 := part_eq vals a0 (fun r hr => hall _ (by
    rw [hinv.split, ← hinv.idx]; simp; exact ⟨r, hr, rfl⟩))
  rw [hp] at ha
  exact ⟨ι, H, σ, _, .normal, hinv.form, .normal, ha, hR, he⟩

theorem draw_all (hok : DOk E ops canon) {L : Nat → Bool} {listed : Array Bool} (hsz : listed.size = ops.size) (hl : ∀ i, i < ops.size → listed.getD i true = L i)
    (hr : Region.ready .any ops listed = []) : ∀ i ∈ canon, L i = true := by
  intro i hi
  cases hL : L i with
  | true => rfl
  | false =>
    obtain ⟨p, j, q, h1, h2, h3⟩ := first_open canon ⟨i, hi, hL⟩
    obtain ⟨g1, g2, g3⟩ := hok.top p j q h1
    have : j ∈ Region.ready .any ops listed := (ready_spec hl hsz).2 ⟨g3, h2, fun on hon => by
      have hp := g1 on hon
      obtain ⟨p1, p2, rfl⟩ := List.append_of_mem hp
      exact ⟨(hok.top p1 on (p2 ++ j :: q) (by rw [h1]; simp)).2.2, h3 on hp⟩⟩
    rw [hr] at this
    simp at this

theorem draw_main (ιr : Inj) (hok : DOk E ops canon) (hfit : ∀ (i : Nat) (o : Oper), ops[i]? = some o → a0.fits o.dst = true) {n0 : Nat} {ι0 : Inj} {H0 : Imm} : ∀ (fuel : Nat) (L : Nat → Bool) (listed : Array Bool) (pre suf : List Nat) (vals : List Ran) (recs : List Rec)
    (σ : AStore) (ι : Inj) (H : Imm) (w : World) (ac : Act), listed.size = ops.size → (∀ i, i < ops.size → listed.getD i true = L i) → (canon.filter fun i => !(L i)).length ≤ fuel →
    DInv E ops canon K a0 L pre suf vals recs σ → Settled E ops suf → Rel E ι H σ w → ActRel σ.next ι H (part L vals a0) ac → Ext n0 ι0 H0 σ.next ι H →
    wpAnyIn (FR ιr E.rd) 0 E.P .any ops (APost E n0 ι0 H0 K) fuel listed ac w := by
  intro fuel
  induction fuel with
  | zero =>
    intro L listed pre suf vals recs σ ι H w ac hsz hl hcnt hinv hset hR ha he
    have hall : ∀ i ∈ canon, L i = true := by
      intro i hi
      cases hL : L i with
      | true => rfl
      | false =>
        have : i ∈ canon.filter (fun i => !(L i)) := List.mem_filter.2 ⟨hi, by simp [hL]⟩
        have h0 : canon.filter (fun i => !(L i)) = [] := List.length_eq_zero_iff.1 (by omega)
        rw [h0] at this; simp at this
    refine ⟨?_, draw_fin hok hinv hset hR ha he hall⟩
    cases hr : Region.ready .any ops listed with
    | nil => rfl
    | cons i l =>
      have : i ∈ Region.ready .any ops listed := by rw [hr]; simp
      obtain ⟨h1, h2, _⟩ := (ready_spec hl hsz).1 this
      rw [hall i (hok.all i h1)] at h2; cases h2
  | succ fuel ih =>
    intro L listed pre suf vals recs σ ι H w ac hsz hl hcnt hinv hset hR ha he
    refine ⟨fun hr => draw_fin hok hinv hset hR ha he (draw_all hok hsz hl hr), ?_⟩
    intro i hi
    obtain ⟨h1, h2, h3⟩ := (ready_spec hl hsz).1 hi
    have hb : ∀ on ∈ boundAt ops i, L on = true := fun on hon => (h3 on hon).2
    have hic := hok.all i h1
    have hL' := hinv.closed.withOne hb
    have hents := hinv.ents'
    have hsz' : (listed.setIfInBounds i true).size = ops.size := by simpa using hsz
    have hl' : ∀ k, k < ops.size → (listed.setIfInBounds i true).getD k true = withOne L i k := by
      intro k hk
      by_cases hki : k = i
      · subst hki
        rw [withOne_self, Array.getD_eq_getD_getElem?]
        simp [hsz, hk]
      · rw [withOne_ne hki, ← hl k hk, Array.getD_eq_getD_getElem?, Array.getD_eq_getD_getElem?]
        simp [Ne.symm hki]
    have hcnt' : (canon.filter fun k => !(withOne L i k)).length ≤ fuel := by
      have := filter_withOne h2 canon hic
      omega
    -- the rest, from a state that is known
    have next : ∀ (pre suf : List Nat) (vals : List Ran) (recs : List Rec) (σ : AStore) (ι : Inj) (H : Imm) (w : World) (ac : Act), DInv E ops canon K a0 (withOne L i) pre suf vals recs σ →
        Rel E ι H σ w → ActRel σ.next ι H (part (withOne L i) vals a0) ac → Ext n0 ι0 H0 σ.next ι H → wpAnyIn (FR ιr E.rd) 0 E.P .any ops (APost E n0 ι0 H0 K) fuel (listed.setIfInBounds i true) ac w := by
      intro pre suf vals recs σ ι H w ac hinv hR ha he
      obtain ⟨pre', suf', vals', recs', add, g1, g2, g3, g4⟩ := DInv.advance hok _ _ _ _ hinv
      have ha' : ActRel σ.next ι H (part (withOne L i) vals' a0) ac := by
        rw [g3, part_append, part_skip add _ g4]; exact ha
      exact ih _ _ _ _ _ _ _ _ _ _ _ hsz' hl' hcnt' g1 g2 hR ha' he
    have ho : ops[i]? = some ops[i] := Array.getElem?_eq_getElem h1
    generalize hoo : ops[i] = o at ho
    unfold wpOpIn
    simp only [ho]
    rw [hinv.split, List.mem_append] at hic
    by_cases hip : i ∈ pre
    · -- a read that is made late
      have hip' := hip
      rw [← hinv.idx, List.mem_map] at hip'
      obtain ⟨r, hr, hri⟩ := hip'
      obtain ⟨v1, v2, hv⟩ := List.append_of_mem hr
      obtain ⟨o', q1, q2, q3⟩ := hinv.ents v1 r v2 hv
      rw [hri, ho] at q1
      cases q1
      obtain ⟨q4, q5⟩ := q3 (by rw [hri]; exact h2)
      have hcv : canon = v1.map (·.i) ++ i :: (v2.map (·.i) ++ suf) := by rw [hinv.split, ← hinv.idx, hv]; simp [hri]
      have same := reads_same hok hfit hents ho h2 hinv.closed hb hv hcv (.inr ⟨r, v2, suf, rfl, hri, rfl⟩)
      have hle := part_withOne hok hfit hents h2 hinv.closed hri hv (q := suf) (by rw [hinv.idx]; exact hinv.split)
      have hfo : (part L vals a0).fits o.dst = true := by rw [AAct.fits_n (part_n L vals a0).1]; exact hfit i o ho
      have hinv' : DInv E ops canon K a0 (withOne L i) pre suf vals recs σ := by
        refine ⟨hinv.split, hinv.idx, ?_, fun k hk hke => withOne_mono (hinv.eff k hk hke), hL', hinv.form, ?_⟩
        · intro k hk
          by_cases hki : k = i
          · rw [hki]; exact hip
          · rw [withOne_ne hki] at hk; exact hinv.inpre k hk
        · intro u1 r' u2 hu
          obtain ⟨o', p1, p2, p3⟩ := hinv.ents u1 r' u2 hu
          refine ⟨o', p1, p2, fun hl => p3 ?_⟩
          cases hll : L r'.i with
          | false => rfl
          | true => rw [withOne_mono hll] at hl; cases hl
      rcases q5 with ⟨j, want, b, hg, hy, hbw, hx⟩ | ⟨hw, v, hx, hrec, hread⟩
      · -- it is left out
        rw [← yield_same hg same] at hy
        have hy' := aYield_sound ha hy
        have hnw : ¬ Region.wanted o (yielded ops ac.tmps) = true := by simp [Region.wanted, hg, hy', hbw]
        rw [if_neg hnw]
        refine ⟨fun _ _ => trivial, ?_⟩
        have ha' := (ha.put hfo undefA_rel).le (a := part (withOne L i) vals a0) (by rw [q2, hx] at hle; exact hle)
        exact next pre suf vals recs σ ι H w _ hinv' hR ha' he
      · have hwant : Region.wanted o (yielded ops ac.tmps) = true := by
          rcases hw with hg | ⟨j, b, hg, hy⟩
          · simp [Region.wanted, hg]
          · rw [← yield_same hg same] at hy
            have hy' := aYield_sound ha hy
            simp [Region.wanted, hg, hy']
        rw [if_pos hwant]
        have hop := aRead_some q4 hread
        rw [← aOp_congr E true o.op σ (ev_same (ops := ops) (G := E.G) same)] at hop
        have hs := aOp_sound hR (ha.rho hR) true o
        rw [hop] at hs
        obtain ⟨v', w', ι', H', hrun, hvr, hR', he'⟩ := hs
        refine ⟨fun _ _ => trivial, ?_⟩
        rw [semAt_run (E := E) (σ := σ) (lit := true) (ρ := (part L vals a0).ev E.G) (.inl ⟨by rw [hop]; simp, by rw [hop]; simp⟩), hrun]
        have ha' := ((ha.ext he').put hfo hvr).le (a := part (withOne L i) vals a0) (by rw [q2, hx] at hle; exact hle)
        exact next pre suf vals recs σ ι' H' w' _ hinv' hR' ha' (he.trans he')
    · -- what may turn the store
      have his := hic.resolve_left hip
      obtain ⟨e, s, hse, hee⟩ : ∃ e s, suf = e :: s ∧ effAt E ops e = true := by
        rcases hset with h | h
        · rw [h] at his; simp at his
        · exact h
      subst hse
      have hie : i = e := by
        simp at his
        rcases his with h | h
        · exact h
        · obtain ⟨s1, s2, rfl⟩ := List.append_of_mem h
          have hbit := hok.pairs pre e s1 i s2 (by rw [hinv.split]; simp) (.inl hee)
          have := hok.anc hL' (withOne_self L i) hbit
          have hne : e ≠ i := by
            intro hh
            exact (hok.nodup hinv.split).2 (by rw [hh]; simp)
          rw [withOne_ne hne] at this
          exact absurd (hinv.inpre e this) (hok.nodup hinv.split).1
      subst hie
      have heff : isEff E o.op = true := by simpa [effAt, ho] using hee
      have same := reads_same hok hfit hents ho h2 hinv.closed hb (rs1 := vals) (rest := []) (by simp) (suf' := s) (by rw [hinv.idx]; exact hinv.split) (.inl rfl)
      have hfo : (part L vals a0).fits o.dst = true := by rw [AAct.fits_n (part_n L vals a0).1]; exact hfit i o ho
      have hform := hinv.form
      simp only [aDr, ho, heff] at hform
      -- one more in the row
      have hvi : vals.map (·.i) = pre := hinv.idx
      have step : ∀ (x : Option AVal) (σ' : AStore) (ι' : Inj) (H' : Imm) (w' : World) (ac' : Act), (σ' = σ ∨ ∀ r ∈ recs, (look (ancs ops canon []) i).testBit r.i = true ∨ r.holds E σ') →
          aDr E ops (ancs ops canon []) K (clearAll ops.toList a0) s recs ((part everyOne vals a0).put o.dst x) σ' → Rel E ι' H' σ' w' →
          ActRel σ'.next ι' H' ((part L vals a0).put o.dst x) ac' → Ext n0 ι0 H0 σ'.next ι' H' → wpAnyIn (FR ιr E.rd) 0 E.P .any ops (APost E n0 ι0 H0 K) fuel (listed.setIfInBounds i true) ac' w' := by
        intro x σ' ι' H' w' ac' hrecs hf hR' ha' he'
        have hpart : part (withOne L i) (vals ++ [⟨i, o.dst, x⟩]) a0 = (part L vals a0).put o.dst x := by
          rw [part_append]
          simp only [part, withOne_self, if_true]
          congr 1
          have : ∀ (rs : List Ran) (a : AAct), (∀ r ∈ rs, r.i ≠ i) → part (withOne L i) rs a = part L rs a := by
            intro rs
            induction rs with
            | nil => intro a _; rfl
            | cons r rs ih2 =>
              intro a h
              simp only [part]
              rw [withOne_ne (h r (by simp))]
              exact ih2 _ (fun r' hr' => h r' (by simp [hr']))
          refine this vals a0 ?_
          intro r hr hri
          exact hip (by rw [← hvi]; exact List.mem_map.2 ⟨r, hr, hri⟩)
        refine next (pre ++ [i]) s (vals ++ [⟨i, o.dst, x⟩]) recs σ' ι' H' w' ac' ?_ hR' (by rw [hpart]; exact ha') he'
        refine ⟨by simp [hinv.split], by simp [hvi], ?_, ?_, hL', by rw [part_append]; exact hf, ?_⟩
        · intro k hk
          by_cases hki : k = i
          · simp [hki]
          · rw [withOne_ne hki] at hk; simp [hinv.inpre k hk]
        · intro k hk hke
          simp at hk
          rcases hk with hk | rfl
          · exact withOne_mono (hinv.eff k hk hke)
          · exact withOne_self L k
        · intro u1 r u2 hu
          by_cases hu2 : u2 = []
          · subst hu2
            have := List.append_inj' hu (by simp)
            obtain ⟨rfl, hr⟩ := this
            simp at hr
            subst hr
            exact ⟨o, ho, rfl, fun hh => by rw [withOne_self] at hh; cases hh⟩
          · obtain ⟨u2', z, rfl⟩ : ∃ u2' z, u2 = u2' ++ [z] := ⟨u2.dropLast, u2.getLast hu2, (List.dropLast_concat_getLast hu2).symm⟩
            have hu' : vals ++ [⟨i, o.dst, x⟩] = (u1 ++ r :: u2') ++ [z] := by simpa using hu
            have := List.append_inj' hu' (by simp)
            obtain ⟨o', p1, p2, p3⟩ := hinv.ents u1 r u2' this.1
            refine ⟨o', p1, p2, fun hh => ?_⟩
            have hLr : L r.i = false := by
              cases hll : L r.i with
              | false => rfl
              | true => rw [withOne_mono hll] at hh; cases hh
            obtain ⟨p4, p5⟩ := p3 hLr
            refine ⟨p4, ?_⟩
            rcases p5 with p5 | ⟨p5, v, p6, p7, p8⟩
            · exact .inl p5
            · refine .inr ⟨p5, v, p6, p7, ?_⟩
              rcases hrecs with rfl | hrecs
              · exact p8
              rcases hrecs _ p7 with hb' | hh'
              · have := hok.anc hL' (withOne_self L i) hb'
                rw [this] at hh; cases hh
              · exact hh'
      have clear := clearAll_part hfit hents (L := L)
      have go : aGoD E K (clearAll ops.toList a0) (fun x σ' => recsOk E (look (ancs ops canon []) i) σ' recs ∧ aDr E ops (ancs ops canon []) K (clearAll ops.toList a0) s recs ((part everyOne vals a0).put o.dst x) σ') σ
          (aOp E true o.op ((part everyOne vals a0).ev E.G) σ) → Region.wanted o (yielded ops ac.tmps) = true →
          (if Region.wanted o (yielded ops ac.tmps) = true then o.wpIn (FR ιr E.rd) 0 E.P ac w (wpAnyIn (FR ιr E.rd) 0 E.P .any ops (APost E n0 ι0 H0 K) fuel (listed.setIfInBounds i true)) (APost E n0 ι0 H0 K)
            else (∀ f, o.about E.P w ac.eval = some f → (FR ιr E.rd).fn f) ∧ wpAnyIn (FR ιr E.rd) 0 E.P .any ops (APost E n0 ι0 H0 K) fuel (listed.setIfInBounds i true) (ac.put o.dst undef) w) := by
        intro hgo hwant
        rw [if_pos hwant]
        rw [← aOp_congr E true o.op σ (ev_same (ops := ops) (G := E.G) same)] at hgo
        have hs := aOp_sound hR (ha.rho hR) true o
        refine ⟨fun _ _ => trivial, ?_⟩
        have hsem : o.semAt (FR ιr E.rd).round ac.eval = execOp ac.eval o := by
          refine semAt_run (E := E) (σ := σ) (lit := true) (ρ := (part L vals a0).ev E.G) (.inl ⟨?_, ?_⟩)
          · intro d hd; rw [hd] at hgo; exact hgo
          · intro hd; rw [hd] at hgo; exact hgo
        rw [hsem]
        generalize aOp E true o.op ((part L vals a0).ev E.G) σ = res at hgo hs
        cases res with
        | val v σ' =>
          obtain ⟨v', w', ι', H', hrun, hvr, hR', he'⟩ := hs
          rw [hrun]
          exact step (some v) σ' ι' H' w' _ (.inr (recsOk_mem hgo.1)) hgo.2 hR' ((ha.ext he').put hfo hvr) (he.trans he')
        | vals l =>
          obtain ⟨p, hp, v', w', ι', H', hrun, hvr, hR', he'⟩ := hs
          rw [hrun]
          have := hgo p hp
          exact step (some p.1) p.2 ι' H' w' _ (.inr (recsOk_mem this.1)) this.2 hR' ((ha.ext he').put hfo hvr) (he.trans he')
        | skip σ' =>
          obtain ⟨w', hrun, hR', hn⟩ := hs
          rw [hrun]
          have he' : Ext σ.next ι H σ'.next ι H := ⟨by omega, fun _ _ => rfl, Imm.Le.refl _⟩
          exact step (some undefA) σ' ι H w' _ (.inr (recsOk_mem hgo.1)) hgo.2 hR' ((ha.ext he').put hfo undefA_rel) (he.trans he')
        | enter t args =>
         cases t with
         | yld b =>
          obtain ⟨args', hargs, st, pend, ps, as, bd, tm, nt, d, fn, tmps, y1, y2, y3, y4, y5, y6, hrun⟩ := hs
          rw [hrun]
          refine ⟨(fun hh => by cases hh), RoundIn.mono (ARound.sound hgo hR hargs y1 y2 y3 y4 y5 y6 ιr) ?_⟩
          rintro ex w1 ⟨ι1, H1, σ1, ae, hq, hx, hR1, he1⟩
          cases hx with
          | ret v v' hv => exact step (some v) σ1 ι1 H1 w1 _ (.inr (recsOk_mem hq.1)) hq.2 hR1 ((ha.ext he1).put hfo hv) (he.trans he1)
          | pan v v' hv => exact ⟨ι1, H1, σ1, _, _, hq, .pan v v' hv, (ha.ext he1).le clear, hR1, he.trans he1⟩
         | fn f =>
          obtain ⟨args', hrun, hargs⟩ := hs
          rw [hrun]
          refine ⟨(fun hh => by cases hh), callsIn_FR (Calls.mono (hgo ι H w args' hR hargs) ?_)⟩
          rintro ex w1 ⟨ι1, H1, σ1, ae, hq, hx, hR1, he1⟩
          cases hx with
          | ret v v' hv => exact step (some v) σ1 ι1 H1 w1 _ (.inr (recsOk_mem hq.1)) hq.2 hR1 ((ha.ext he1).put hfo hv) (he.trans he1)
          | pan v v' hv => exact ⟨ι1, H1, σ1, _, _, hq, .pan v v' hv, (ha.ext he1).le clear, hR1, he.trans he1⟩
        | pan v =>
          obtain ⟨v', hrun, hv⟩ := hs
          rw [hrun]
          exact ⟨ι, H, σ, _, _, hgo, .pan v v' hv, ha.le clear, hR, he⟩
        | dfr d => exact hgo.elim
        | recov => exact hgo.elim
        | bad => exact hgo.elim
      split at hform
      · rename_i hg
        exact go hform (by simp [Region.wanted, hg])
      · rename_i j want hg
        split at hform
        · exact hform.elim
        · rename_i b hy
          rw [← yield_same hg same] at hy
          have hy' := aYield_sound ha hy
          by_cases hbw : b = some want
          · exact go (hform.1 hbw) (by simp [Region.wanted, hg, hy', hbw])
          · have hnw : ¬ Region.wanted o (yielded ops ac.tmps) = true := by simp [Region.wanted, hg, hy', hbw]
            rw [if_neg hnw]
            refine ⟨fun _ _ => trivial, ?_⟩
            exact step (some undefA) σ ι H w _ (.inl rfl) (hform.2 hbw) hR (ha.put hfo undefA_rel) he

theorem AWp.region_draw {id : Nat} (hm : E.P.follows .mixedOrders = true) {σ : AStore} (h : aDrawn E ops canon K a0 σ) : AWp E (.region id ops true) K a0 σ := by
  obtain ⟨h1, h2, h3⟩ := h
  have hok := DOk.of h1
  have hfit : ∀ (i : Nat) (o : Oper), ops[i]? = some o → a0.fits o.dst = true := by
    intro i o ho
    simp only [fitsAll, List.all_eq_true] at h2
    have := Array.mem_of_getElem? ho
    exact h2 o (by simpa using this)
  intro ι H w ac hR ha _
  refine wpIn_region_any hm ?_
  have hR' : Rel E ι H σ { w with drawn := w.drawn + 1 } := hR.congr rfl ⟨rfl, rfl⟩
  have hinv : DInv E ops canon K a0 (fun _ => false) [] canon [] [] σ :=
    ⟨rfl, rfl, by simp, by simp, (fun i hi => by cases hi), h3, fun v1 r v2 hv => by simp at hv⟩
  obtain ⟨pre', suf', vals', recs', add, g1, g2, g3, g4⟩ := DInv.advance hok _ _ _ _ hinv
  refine draw_main ι hok hfit ops.size (fun _ => false) _ pre' suf' vals' recs' σ ι H _ ac (by simp) ?_ ?_ g1 g2 hR' ?_ (Ext.refl _ _ _)
  · intro i hi
    rw [Array.getD_eq_getD_getElem?]
    simp [hi]
  · rw [← hok.len]
    exact List.length_filter_le _ _
  · rw [g3]
    simp only [List.nil_append]
    rw [part_skip add _ g4]
    exact ha
end
end Abs
