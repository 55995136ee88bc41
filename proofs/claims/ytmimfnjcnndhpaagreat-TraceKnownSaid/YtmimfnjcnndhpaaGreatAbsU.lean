/-
  Part of the abstract layer (U): values, stores and steps that stand for those of the model, and the proof that they do. It proves no statement by itself.
-/
import Derived.Test.YtmimfnjcnndhpaaGreatAbsS
noncomputable section
namespace Abs
set_option linter.unusedVariables false
set_option linter.unusedSimpArgs false
set_option linter.unusedSectionVars false
open Go

theorem part_skip {L : Nat → Bool} : ∀ (rs : List Ran) (a : AAct), (∀ r ∈ rs, L r.i = false) → part L rs a = a
  | [], _, _ => rfl
  | r :: rs, a, h => by
      rw [part, if_neg (by rw [h r (by simp)]; simp)]
      exact part_skip rs _ (fun r' hr' => h r' (by simp [hr']))

def withOne (L : Nat → Bool) (i : Nat) : Nat → Bool := fun k => L k || k == i

theorem withOne_self (L : Nat → Bool) (i : Nat) : withOne L i i = true := by simp [withOne]
theorem withOne_ne {L : Nat → Bool} {i k : Nat} (h : k ≠ i) : withOne L i k = L k := by simp [withOne, h]
theorem withOne_mono {L : Nat → Bool} {i k : Nat} (h : L k = true) : withOne L i k = true := by simp [withOne, h]

theorem Closed.withOne {ops : Array Oper} {L : Nat → Bool} (hL : Closed ops L) {i : Nat} (hi : ∀ on ∈ boundAt ops i, L on = true) : Closed ops (withOne L i) := by
  intro k hk on hon
  by_cases h : k = i
  · subst h; exact withOne_mono (hi on hon)
  · rw [withOne_ne h] at hk; exact withOne_mono (hL k hk on hon)

section
variable {E : Env} {ops : Array Oper} {canon : List Nat} {K : APred} {a0 : AAct}

structure DInv (E : Env) (ops : Array Oper) (canon : List Nat) (K : APred) (a0 : AAct) (L : Nat → Bool) (pre suf : List Nat) (vals : List Ran) (recs : List Rec) (σ : AStore) : Prop where
  split : canon = pre ++ suf
  idx : vals.map (·.i) = pre
  inpre : ∀ i, L i = true → i ∈ pre
  eff : ∀ i ∈ pre, effAt E ops i = true → L i = true
  closed : Closed ops L
  form : aDr E ops (ancs ops canon []) K (clearAll ops.toList a0) suf recs (part everyOne vals a0) σ
  ents : ∀ v1 r v2, vals = v1 ++ r :: v2 → ∃ o, ops[r.i]? = some o ∧ r.dst = o.dst ∧ (L r.i = false → isEff E o.op = false ∧
    ((∃ j want b, o.guard = some (j, want) ∧ aYield ops (part everyOne v1 a0) j = some b ∧ b ≠ some want ∧ r.x = some undefA) ∨
     ((o.guard = none ∨ ∃ j b, o.guard = some (j, b) ∧ aYield ops (part everyOne v1 a0) j = some (some b)) ∧
      ∃ v, r.x = some v ∧ (⟨r.i, o.op, part everyOne v1 a0, v⟩ : Rec) ∈ recs ∧ aRead E o.op ((part everyOne v1 a0).ev E.G) σ = some v)))

def Settled (E : Env) (ops : Array Oper) (suf : List Nat) : Prop := suf = [] ∨ ∃ e s, suf = e :: s ∧ effAt E ops e = true

structure DOk (E : Env) (ops : Array Oper) (canon : List Nat) : Prop where
  len : canon.length = ops.size
  all : ∀ i, i < ops.size → i ∈ canon
  top : ∀ p i q, canon = p ++ i :: q → (∀ on ∈ boundAt ops i, on ∈ p) ∧ i ∉ p ∧ i < ops.size
  pairs : ∀ p i q j r, canon = p ++ i :: q ++ j :: r → (effAt E ops i = true ∨ clashAt ops i j = true) → (look (ancs ops canon []) j).testBit i = true

theorem DOk.of (h : drawOk E ops canon = true) : DOk E ops canon := by
  simp only [drawOk, Bool.and_eq_true, List.all_eq_true] at h
  obtain ⟨⟨⟨h0, h1⟩, h2⟩, h3⟩ := h
  refine ⟨Nat.eq_of_beq_eq_true h0, fun i hi => by simpa using h1 i (by simpa using hi), ?_, chkPairs_spec h3⟩
  intro p i q hc
  obtain ⟨g1, g2, g3, g4⟩ := chkTop_spec h2 p i q hc
  exact ⟨fun on hon => (g1 on hon).resolve_left (by simp), g3, g4⟩

theorem DOk.nodup (h : DOk E ops canon) {p : List Nat} {i : Nat} {q : List Nat} (hc : canon = p ++ i :: q) : i ∉ p ∧ i ∉ q := by
  refine ⟨(h.top p i q hc).2.1, ?_⟩
  intro hi
  obtain ⟨q1, q2, rfl⟩ := List.append_of_mem hi
  exact (h.top (p ++ i :: q1) i q2 (by simp [hc])).2.1 (by simp)

theorem DOk.anc (_h : DOk E ops canon) {L : Nat → Bool} (hL : Closed ops L) {i j : Nat} (hj : L j = true) (ht : (look (ancs ops canon []) j).testBit i = true) : L i = true :=
  ancs_spec hL canon [] (by intro j i _ h; simp [look] at h) j i hj ht

/-- On through the reads. -/
theorem DInv.advance (hok : DOk E ops canon) {L : Nat → Bool} {σ : AStore} : ∀ (suf pre : List Nat) (vals : List Ran) (recs : List Rec), DInv E ops canon K a0 L pre suf vals recs σ →
    ∃ pre' suf' vals' recs' add, DInv E ops canon K a0 L pre' suf' vals' recs' σ ∧ Settled E ops suf' ∧ vals' = vals ++ add ∧ ∀ r ∈ add, L r.i = false
  | [], pre, vals, recs, h => ⟨pre, [], vals, recs, [], h, .inl rfl, by simp, by simp⟩
  | i :: suf, pre, vals, recs, h => by
      by_cases he : effAt E ops i = true
      · exact ⟨pre, i :: suf, vals, recs, [], h, .inr ⟨i, suf, rfl, he⟩, by simp, by simp⟩
      · have hnd := hok.nodup h.split
        have hLi : L i = false := by
          cases hl : L i with
          | false => rfl
          | true => exact absurd (h.inpre i hl) hnd.1
        have hf := h.form
        have heb : effAt E ops i = false := by simpa using he
        simp only [aDr] at hf
        cases ho : ops[i]? with
        | none => rw [ho] at hf; exact hf.elim
        | some o =>
          rw [ho] at hf
          have hie : isEff E o.op = false := by simpa [effAt, ho] using heb
          simp only [hie] at hf
          -- the step with a given outcome
          have key : ∀ (x : Option AVal) (recs' : List Rec), (∀ r ∈ recs, r ∈ recs') →
              aDr E ops (ancs ops canon []) K (clearAll ops.toList a0) suf recs' ((part everyOne vals a0).put o.dst x) σ →
              ((∃ j want b, o.guard = some (j, want) ∧ aYield ops (part everyOne vals a0) j = some b ∧ b ≠ some want ∧ x = some undefA) ∨
               ((o.guard = none ∨ ∃ j b, o.guard = some (j, b) ∧ aYield ops (part everyOne vals a0) j = some (some b)) ∧
                ∃ v, x = some v ∧ (⟨i, o.op, part everyOne vals a0, v⟩ : Rec) ∈ recs' ∧ aRead E o.op ((part everyOne vals a0).ev E.G) σ = some v)) →
              ∃ pre' suf' vals' recs' add, DInv E ops canon K a0 L pre' suf' vals' recs' σ ∧ Settled E ops suf' ∧ vals' = vals ++ add ∧ ∀ r ∈ add, L r.i = false := by
            intro x recs' hsub hform hcase
            have hinv : DInv E ops canon K a0 L (pre ++ [i]) suf (vals ++ [⟨i, o.dst, x⟩]) recs' σ := by
              refine ⟨by simp [h.split], by simp [h.idx], fun k hk => by simp [h.inpre k hk], ?_, h.closed, ?_, ?_⟩
              · intro k hk hke
                simp at hk
                rcases hk with hk | rfl
                · exact h.eff k hk hke
                · rw [heb] at hke; cases hke
              · rw [part_append]
                exact hform
              · intro v1 r v2 hv
                by_cases hv2 : v2 = []
                · subst hv2
                  have := List.append_inj' hv (by simp)
                  obtain ⟨rfl, hr⟩ := this
                  simp at hr
                  subst hr
                  exact ⟨o, ho, rfl, fun _ => ⟨hie, hcase⟩⟩
                · obtain ⟨v2', z, rfl⟩ : ∃ v2' z, v2 = v2' ++ [z] := ⟨v2.dropLast, v2.getLast hv2, (List.dropLast_concat_getLast hv2).symm⟩
                  have hv' : vals ++ [⟨i, o.dst, x⟩] = (v1 ++ r :: v2') ++ [z] := by simpa using hv
                  have := List.append_inj' hv' (by simp)
                  obtain ⟨o', q1, q2, q3⟩ := h.ents v1 r v2' this.1
                  refine ⟨o', q1, q2, fun hl => ?_⟩
                  obtain ⟨q4, q5⟩ := q3 hl
                  refine ⟨q4, ?_⟩
                  rcases q5 with q5 | ⟨q5, v, q6, q7, q8⟩
                  · exact .inl q5
                  · exact .inr ⟨q5, v, q6, hsub _ q7, q8⟩
            obtain ⟨pre', suf', vals', recs'', add, g1, g2, g3, g4⟩ := DInv.advance hok suf _ _ _ hinv
            refine ⟨pre', suf', vals', recs'', ⟨i, o.dst, x⟩ :: add, g1, g2, by rw [g3]; simp, ?_⟩
            intro r hr
            simp at hr
            rcases hr with rfl | hr
            · exact hLi
            · exact g4 r hr
          have read : (match aRead E o.op ((part everyOne vals a0).ev E.G) σ with
              | some v => aDr E ops (ancs ops canon []) K (clearAll ops.toList a0) suf (⟨i, o.op, part everyOne vals a0, v⟩ :: recs) ((part everyOne vals a0).put o.dst (some v)) σ
              | none => False) → (o.guard = none ∨ ∃ j b, o.guard = some (j, b) ∧ aYield ops (part everyOne vals a0) j = some (some b)) →
              ∃ pre' suf' vals' recs' add, DInv E ops canon K a0 L pre' suf' vals' recs' σ ∧ Settled E ops suf' ∧ vals' = vals ++ add ∧ ∀ r ∈ add, L r.i = false := by
            intro hr hg
            split at hr
            · rename_i v hv
              exact key (some v) _ (fun r hr => by simp [hr]) hr (.inr ⟨hg, v, rfl, by simp, hv⟩)
            · exact hr.elim
          split at hf
          · rename_i hg
            exact read hf (.inl hg)
          · rename_i j want hg
            split at hf
            · exact hf.elim
            · rename_i b hy
              by_cases hb : b = some want
              · exact read (hf.1 hb) (.inr ⟨j, want, hg, by rw [hy, hb]⟩)
              · exact key (some undefA) recs (fun r hr => hr) (hf.2 hb) (.inl ⟨j, want, b, hg, hy, hb, rfl⟩)

/-- What an operation reads is the same. -/
theorem reads_same (hok : DOk E ops canon) (hfit : ∀ (i : Nat) (o : Oper), ops[i]? = some o → a0.fits o.dst = true) {L : Nat → Bool} {vals : List Ran} (hents : ∀ r ∈ vals, ∃ o, ops[r.i]? = some o ∧ r.dst = o.dst) {i : Nat} {o : Oper} (ho : ops[i]? = some o) (hLi : L i = false)
    (hL : Closed ops L) (hb : ∀ on ∈ boundAt ops i, L on = true) {rs1 rest : List Ran} (hv : vals = rs1 ++ rest) {suf' : List Nat}
    (hc : canon = rs1.map (·.i) ++ i :: suf') (hrest : rest = [] ∨ ∃ r v2 q, rest = r :: v2 ∧ r.i = i ∧ suf' = v2.map (·.i) ++ q) :
    ∀ t ∈ readsOf ops o, (part L vals a0).tmps.get t = (part everyOne rs1 a0).tmps.get t := by
  intro t ht
  have hf1 : ∀ r ∈ vals, a0.fits r.dst = true := by
    intro r hr
    obtain ⟨o', h1, h2⟩ := hents r hr
    rw [h2]; exact hfit _ _ h1
  rw [part_get _ _ _ _ hf1, part_get _ _ _ _ (fun r hr => hf1 r (by rw [hv]; simp [hr]))]
  congr 1
  have hL' := hL.withOne hb
  have h1 : ∀ r ∈ rs1, r.dst = some t → L r.i = true := by
    intro r hr hd
    obtain ⟨o', q1, q2⟩ := hents r (by rw [hv]; simp [hr])
    have hcl : clashAt ops r.i i = true := by
      simp only [clashAt, q1, ho, clash]
      rw [← q2, hd]
      simp [ht]
    obtain ⟨p1, p2, hp⟩ := List.append_of_mem hr
    have hci : canon = p1.map (·.i) ++ r.i :: p2.map (·.i) ++ i :: suf' := by rw [hc, hp]; simp
    have hb' := hok.pairs _ _ _ _ _ hci (.inr hcl)
    have := hok.anc hL' (withOne_self L i) hb'
    have hne : r.i ≠ i := by
      intro he
      have := (hok.nodup (p := rs1.map (·.i)) (i := i) (q := suf') hc).1
      exact this (List.mem_map.2 ⟨r, hr, he⟩)
    rwa [withOne_ne hne] at this
  have h2 : ∀ r ∈ rest, r.dst = some t → L r.i = false := by
    intro r hr hd
    rcases hrest with rfl | ⟨r0, v2, q, rfl, hr0, rfl⟩
    · simp at hr
    · simp at hr
      rcases hr with rfl | hr
      · rw [hr0]; exact hLi
      · obtain ⟨o', q1, q2⟩ := hents r (by rw [hv]; simp [hr])
        have hcl : clashAt ops i r.i = true := by
          simp only [clashAt, q1, ho, clash]
          rw [← q2, hd]
          simp [ht]
        obtain ⟨p1, p2, hp⟩ := List.append_of_mem hr
        have hci : canon = rs1.map (·.i) ++ i :: p1.map (·.i) ++ r.i :: (p2.map (·.i) ++ q) := by rw [hc, hp]; simp
        have hb' := hok.pairs _ _ _ _ _ hci (.inr hcl)
        cases hl : L r.i with
        | false => rfl
        | true => have := hok.anc hL hl hb'; rw [hLi] at this; cases this
  rw [hv, lastW_append, lastW_none h2, lastW_all h1]
  simp

/-- One more is known. -/
theorem part_withOne (hok : DOk E ops canon) (hfit : ∀ (i : Nat) (o : Oper), ops[i]? = some o → a0.fits o.dst = true) {L : Nat → Bool} {vals : List Ran} (hents : ∀ r ∈ vals, ∃ o, ops[r.i]? = some o ∧ r.dst = o.dst) {i : Nat} (hLi : L i = false)
    (hL : Closed ops L) {v1 v2 : List Ran} {r : Ran} (hri : r.i = i) (hv : vals = v1 ++ r :: v2) {q : List Nat} (hc : canon = vals.map (·.i) ++ q) :
    (part (withOne L i) vals a0).Le ((part L vals a0).put r.dst r.x) := by
  have hf1 : ∀ r ∈ vals, a0.fits r.dst = true := by
    intro r hr
    obtain ⟨o', h1, h2⟩ := hents r hr
    rw [h2]; exact hfit _ _ h1
  obtain ⟨n1, n2⟩ := part_n (withOne L i) vals a0
  obtain ⟨n3, n4⟩ := part_n L vals a0
  obtain ⟨n5, n6⟩ := (part L vals a0).put_n r.dst r.x
  refine ⟨by rw [n1, n5, n3], by rw [n2, n6, n4], ?_⟩
  intro t v ht
  rw [AAct.put_get (by rw [AAct.fits_n n3]; exact hf1 r (by rw [hv]; simp))]
  rw [part_get _ _ _ _ hf1] at ht
  have hcr : canon = v1.map (·.i) ++ i :: (v2.map (·.i) ++ q) := by rw [hc, hv]; simp [hri]
  have hnd := hok.nodup hcr
  by_cases hd : r.dst = some t
  · rw [if_pos hd]
    have h2 : ∀ r' ∈ v2, r'.dst = some t → withOne L i r'.i = false := by
      intro r' hr' hd'
      obtain ⟨o', q1, q2⟩ := hents r' (by rw [hv]; simp [hr'])
      obtain ⟨o, q3, q4⟩ := hents r (by rw [hv]; simp)
      rw [hri] at q3
      have hcl : clashAt ops i r'.i = true := by
        simp only [clashAt, q1, q3, clash]
        rw [← q2, ← q4, hd, hd']
        simp
      obtain ⟨p1, p2, hp⟩ := List.append_of_mem hr'
      have hci : canon = v1.map (·.i) ++ i :: p1.map (·.i) ++ r'.i :: (p2.map (·.i) ++ q) := by rw [hcr, hp]; simp
      have hb' := hok.pairs _ _ _ _ _ hci (.inr hcl)
      have hne : r'.i ≠ i := by
        intro he
        exact hnd.2 (by simp; exact .inl ⟨r', hr', he⟩)
      rw [withOne_ne hne]
      cases hl : L r'.i with
      | false => rfl
      | true => have := hok.anc hL hl hb'; rw [hLi] at this; cases this
    rw [hv, lastW_append, lastW, lastW_none h2] at ht
    simp only [] at ht
    rw [if_pos ⟨by rw [hri]; exact withOne_self L i, hd⟩] at ht
    simpa using ht
  · rw [if_neg hd, part_get _ _ _ _ hf1]
    rw [← ht]
    congr 1
    refine lastW_congr ?_
    intro r' hr' hd'
    rw [hv] at hr'
    simp at hr'
    rcases hr' with hr' | rfl | hr'
    · have : r'.i ≠ i := fun he => hnd.1 (List.mem_map.2 ⟨r', hr', he⟩)
      rw [withOne_ne this]
    · exact absurd hd' hd
    · have : r'.i ≠ i := fun he => hnd.2 (by simp; exact .inl ⟨r', hr', he⟩)
      rw [withOne_ne this]
end
end Abs
