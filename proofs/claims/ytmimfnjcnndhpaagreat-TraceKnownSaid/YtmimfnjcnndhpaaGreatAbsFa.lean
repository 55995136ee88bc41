/-
  Part of the abstract layer (Fa): values, stores and steps that stand for those of the model, and the proof that they do. It proves no statement by itself.
-/
import Derived.Test.YtmimfnjcnndhpaaGreatAbsT
import Derived.Test.YtmimfnjcnndhpaaGreatAbsH
noncomputable section
namespace Abs
set_option linter.unusedVariables false
set_option linter.unusedSimpArgs false
set_option linter.unusedSectionVars false
open Go

/-! ### A call whose arguments no one writes any more -/

def onlyT (σ : AStore) : List Nat → T ABlk → T ABlk
  | [], t => t
  | b :: r, t => onlyT σ r (T.put (b + 1) t b (σ.get b))

/-- These blocks alone. -/
def AStore.only (σ : AStore) (bs : List Nat) : AStore := ⟨onlyT σ bs .leaf, σ.next, []⟩

theorem onlyT_get {σ : AStore} : ∀ (bs : List Nat) (t : T ABlk) {b : Nat} {x : ABlk}, (onlyT σ bs t).get b = some x → (b ∈ bs ∧ σ.get b = some x) ∨ t.get b = some x
  | [], t, b, x, h => .inr h
  | c :: r, t, b, x, h => by
      rcases onlyT_get r _ h with h1 | h1
      · exact .inl ⟨by simp [h1.1], h1.2⟩
      · rw [T.get_put _ _ _ _ _ (lt_two_pow_sub _)] at h1
        split at h1
        · rename_i e; subst e; exact .inl ⟨by simp, h1⟩
        · exact .inr h1

theorem AStore.only_get {σ : AStore} {bs : List Nat} {b : Nat} {x : ABlk} (h : (σ.only bs).get b = some x) : b ∈ bs ∧ σ.get b = some x := by
  have hlt := AStore.lt_of_get h
  rw [AStore.get_of_lt hlt] at h
  rcases onlyT_get bs .leaf h with h | h
  · exact h
  · cases h

def delAll : List Nat → AStore → AStore
  | [], σ => σ
  | b :: r, σ => delAll r (σ.del b)

theorem delAll_next : ∀ (bs : List Nat) (σ : AStore), (delAll bs σ).next = σ.next
  | [], σ => rfl
  | b :: r, σ => delAll_next r (σ.del b)

/-- The blocks that values lead to. -/
def blks (σ : AStore) : Nat → List AVal → List Nat → List Nat
  | 0, _, acc => acc
  | _ + 1, [], acc => acc
  | f + 1, v :: r, acc =>
    match v with
    | .agg xs | .tuple xs | .iptr xs => blks σ f (xs ++ r) acc
    | .iface _ v => blks σ f (v :: r) acc
    | .func _ a b => blks σ f (a ++ (b ++ r)) acc
    | .ptr b _ _ | .slice b _ _ | .view b _ _ | .endS b _ =>
      match acc.any (Nat.beq b) with
      | true => blks σ f r acc
      | false => match σ.get b with
        | some (.cells _ els) => blks σ f (els ++ r) (b :: acc)
        | _ => blks σ f r acc
    | _ => blks σ f r acc

def fzArgs (σ : AStore) (args : List AVal) : Option (List AVal × AStore) :=
  match blks σ 2000 args [] with
  | bs => match mapO (frz (σ.only bs) 100) args with
    | some args' => some (args', delAll bs σ)
    | none => none

section
variable {E : Env} {ι : Inj} {H : Imm} {σ σ' : AStore} {w : World}

theorem Rel.freezes : ∀ (bs : List Nat) {σ : AStore} {H : Imm}, Rel E ι H σ w →
    ∃ H', Rel E ι H' (delAll bs σ) w ∧ Ext σ.next ι H σ.next ι H' ∧
      ∀ b x, b ∈ bs → σ.get b = some x → ∀ c e f, w.heap[(ι b).blk]? = some (.cells c e f) → ∀ o v, c[o]? = some v → H'.cell? (ι b).blk o = some v
  | [], σ, H, hR => ⟨H, hR, Ext.refl _ _ _, fun b x h => by simp at h⟩
  | b :: r, σ, H, hR => by
      cases hb : σ.get b with
      | none =>
        have hR1 : Rel E ι H (σ.del b) w := hR.restrict rfl (by
          intro b' x' hx'
          rw [AStore.get_del] at hx'
          split at hx'
          · cases hx'
          · exact hx') (fun _ h => h)
        obtain ⟨H', h1, h2, h3⟩ := Rel.freezes r hR1
        refine ⟨H', h1, h2, ?_⟩
        intro b' x hm hx
        simp only [List.mem_cons] at hm
        rcases hm with rfl | hm
        · rw [hb] at hx; cases hx
        · exact h3 b' x hm (by
            rw [AStore.get_del]
            split
            · rename_i e; subst e; rw [hb] at hx; cases hx
            · exact hx)
      | some y =>
        obtain ⟨_, _, hlt⟩ := hR.live b y hb
        obtain ⟨o, ho⟩ : ∃ o, w.heap[(ι b).blk]? = some o := ⟨w.heap[(ι b).blk], by simp [hlt]⟩
        obtain ⟨f1, f2⟩ := hR.freeze hb ho
        obtain ⟨H', h1, h2, h3⟩ := Rel.freezes r f1
        refine ⟨H', h1, f2.trans h2, ?_⟩
        have told : ∀ c e f, w.heap[(ι b).blk]? = some (.cells c e f) → ∀ o v, c[o]? = some v → H'.cell? (ι b).blk o = some v := by
          intro c e f hc k v hv
          rw [ho] at hc
          cases hc
          exact h2.imm.cell (by simpa [Imm.cell?, Imm.with] using hv)
        intro b' x hm hx
        by_cases e : b' = b
        · subst e; exact told
        · simp only [List.mem_cons] at hm
          rcases hm with rfl | hm
          · exact absurd rfl e
          · exact h3 b' x hm (by rw [AStore.get_del, if_neg e]; exact hx)

theorem fzArgs_sound (hR : Rel E ι H σ w) {args args' : List AVal} {ws : List Value} (hargs : LRel σ.next ι H args ws) (h : fzArgs σ args = some (args', σ')) :
    ∃ H', Rel E ι H' σ' w ∧ LRel σ'.next ι H' args' ws ∧ Ext σ.next ι H σ'.next ι H' := by
  unfold fzArgs at h
  simp only [] at h
  generalize blks σ 2000 args [] = bs at h
  cases hus : mapO (frz (σ.only bs) 100) args with
  | none => rw [hus] at h; cases h
  | some us =>
    rw [hus] at h
    cases h
    obtain ⟨H', h1, h2, h3⟩ := Rel.freezes bs hR
    have hR2 : Rel E ι H (σ.only bs) w := hR.restrict rfl (fun b x hx => (AStore.only_get hx).2) (fun p hp => by simp [AStore.only] at hp)
    have hok := frz_ok (ι0 := ι) (H2 := H') hR2 h2.imm.cle (fun b x hx c e f hc o v hv => h3 b x (AStore.only_get hx).1 (AStore.only_get hx).2 c e f hc o v hv) 100 100 (Nat.le_refl _)
    have hl : LRel 0 ι H' args' ws := frz_LRel hok (σ := σ.only bs) hargs hus
    rw [delAll_next]
    exact ⟨H', h1, LRel.mono (m := 0) (fun _ h => by omega) (Nat.zero_le _) (fun _ _ _ h => h) hl hl.wf, h2⟩

theorem ACalls.fz {f : FuncId} {args args' : List AVal} {R : AEnd → AStore → Prop} (h : fzArgs σ args = some (args', σ')) (hc : ACalls E f args' σ' R) : ACalls E f args σ R := by
  intro ι H w ws hR hargs
  obtain ⟨H', h1, h2, h3⟩ := fzArgs_sound hR hargs h
  refine Calls.mono (hc ι H' w ws h1 h2) ?_
  rintro e w' ⟨ι1, H1, σ1, ae, hr, he, hR1, hx⟩
  exact ⟨ι1, H1, σ1, ae, hr, he, hR1, h3.trans hx⟩
end
end Abs
