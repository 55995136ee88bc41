/-
  Part of the abstract layer (Fb): values, stores and steps that stand for those of the model, and the proof that they do. It proves no statement by itself.
-/
import Derived.Test.YtmimfnjcnndhpaaGreatAbsFa
noncomputable section
namespace Abs
set_option linter.unusedVariables false
set_option linter.unusedSimpArgs false
set_option linter.unusedSectionVars false
open Go

/-! ### A call that is lent memory: it has nothing to do with the store, but reads what it is handed -/

/-- What the call has made itself: nothing in it was there before. -/
def ownV (σ : AStore) : Nat → AVal → Bool
  | 0, _ => false
  | _ + 1, .sc _ => true
  | n + 1, .ptr b i _ => match σ.get b with
    | some (.cells _ els) => match els[i]? with
      | some e => e.cells.all (ownV σ n)
      | none => false
    | _ => false
  | n + 1, .slice b off len => match σ.get b with
    | some (.cells _ els) => ((els.drop off).take len).all (ownV σ n)
    | _ => false
  | n + 1, .view b off len => match σ.get b with
    | some (.cells _ els) => ((els.drop off).take len).all (ownV σ n)
    | _ => false
  | _ + 1, .data _ _ els => match els with
    | [] => true
    | _ :: _ => false
  | n + 1, .iface _ v => ownV σ n v
  | n + 1, .agg cs => cs.all (ownV σ n)
  | n + 1, .tuple cs => cs.all (ownV σ n)
  | _ + 1, .iptr _ | _ + 1, .map _ | _ + 1, .yld _ | _ + 1, .endS _ _ | _ + 1, .func _ _ _ => false

section
variable {E : Env} {ι ι0 : Inj} {H H2 : Imm} {σ : AStore} {w : World}

def OwnOk (ι ι0 : Inj) (H H2 : Imm) (σ : AStore) (n : Nat) : Prop := ∀ v u v', ownV σ n v = true → VRel σ.next ι H v v' → frz σ n v = some u → VRel 0 ι0 H2 u v'

theorem own_LRel {n : Nat} (hP : OwnOk ι ι0 H H2 σ n) : ∀ {vs us : List AVal} {ws : List Value}, LRel σ.next ι H vs ws → vs.all (ownV σ n) = true → mapO (frz σ n) vs = some us → LRel 0 ι0 H2 us ws
  | _, us, _, .nil, _, h => by simp only [mapO, Option.some.injEq] at h; subst h; exact .nil
  | _, us, _, .cons v w vs ws hv hs, ho, h => by
      obtain ⟨y, ys, h1, h2, rfl⟩ := mapO_cons h
      simp only [List.all_cons, Bool.and_eq_true] at ho
      exact .cons y w ys ws (hP v y w ho.1 hv h1) (own_LRel hP hs ho.2 h2)

theorem own_CRel {n : Nat} (hP : OwnOk ι ι0 H H2 σ n) {g g' : Nat → Option Value} (hg : RLe g g') : ∀ {vs us : List AVal} {o : Nat}, CRel σ.next ι H g vs o → vs.all (ownV σ n) = true → mapO (frz σ n) vs = some us → CRel 0 ι0 H2 g' us o
  | _, us, _, .nil _ o, _, h => by simp only [mapO, Option.some.injEq] at h; subst h; exact .nil g' o
  | _, us, _, .cons _ v w vs o ho hv hs, hw, h => by
      obtain ⟨y, ys, h1, h2, rfl⟩ := mapO_cons h
      simp only [List.all_cons, Bool.and_eq_true] at hw
      exact .cons g' y w ys o (hg _ _ ho) (hP v y w hw.1 hv h1) (own_CRel hP hg hs hw.2 h2)

theorem own_DRel {n : Nat} (hP : ∀ m, m ≤ n → OwnOk ι ι0 H H2 σ m) {g g' : Nat → Option Value} (hg : RLe g g') : ∀ {sz : Nat} {vs us : List AVal} {o : Nat}, DRel σ.next ι H g sz vs o → vs.all (ownV σ n) = true →
    mapO (frz σ n) vs = some us → DRel 0 ι0 H2 g' sz us o
  | _, _, us, _, .nil _ sz o, _, h => by simp only [mapO, Option.some.injEq] at h; subst h; exact .nil g' sz o
  | _, _, us, _, .agg _ sz cs es o hsz hc hs, hw, h => by
      obtain ⟨y, ys, h1, h2, rfl⟩ := mapO_cons h
      simp only [List.all_cons, Bool.and_eq_true] at hw
      cases n with
      | zero => simp [frz] at h1
      | succ n =>
        simp only [frz] at h1
        split at h1
        · rename_i cs' hcs
          cases h1
          have hwc : cs.all (ownV σ n) = true := hw.1
          exact .agg g' sz cs' ys o ((mapO_length hcs).trans hsz) (own_CRel (hP n (by omega)) hg hc hwc hcs) (own_DRel hP hg hs hw.2 h2)
        · cases h1
  | _, _, us, _, .one _ v w es o hv ho hr hs, hw, h => by
      obtain ⟨y, ys, h1, h2, rfl⟩ := mapO_cons h
      simp only [List.all_cons, Bool.and_eq_true] at hw
      exact .one g' y w ys o ((frz_isAgg h1).trans hv) (hg _ _ ho) (hP n (Nat.le_refl _) v y w hw.1 hr h1) (own_DRel hP hg hs hw.2 h2)

theorem own_ok (hR : Rel E ι H σ w) (hb : ∀ b x, σ.get b = some x → ∀ c e f, w.heap[(ι b).blk]? = some (.cells c e f) → ∀ o v, c[o]? = some v → H2.cell? (ι b).blk o = some v) (n : Nat) :
    ∀ m, m ≤ n → OwnOk ι ι0 H H2 σ m := by
  induction n with
  | zero =>
    intro m hm v u v' hw hv h
    have : m = 0 := by omega
    subst this
    simp [frz] at h
  | succ n ih =>
    intro m hm
    rcases Nat.lt_or_ge m (n + 1) with hlt | hge
    · exact ih m (by omega)
    have : m = n + 1 := by omega
    subst this
    intro v u v' hw hv h
    have ihn := ih n (Nat.le_refl _)
    have own : ∀ {b : Nat} {x : ABlk}, σ.get b = some x → ∀ {c e f}, w.heap[(ι b).blk]? = some (.cells c e f) → RLe (c[·]?) (H2.cell? (ι b).blk) := by
      intro b x hx c e f hc o v ho
      exact hb b x hx _ _ _ hc o v ho
    cases hv with
    | sc => simp only [frz] at h; cases h; exact .sc _
    | ptr b i k hbn =>
      simp only [frz] at h
      simp only [ownV] at hw
      split at h
      · split at h
        · rename_i sz els hg
          rw [hg] at hw
          simp only [] at hw
          split at h
          · rename_i e he
            rw [he] at hw
            simp only [] at hw
            split at h
            · rename_i cs hcs
              cases h
              obtain ⟨h1, h2, c, elem, fr, h3, _, h4, h5, _⟩ := (hR.live b _ hg).1
              have hc := h5.get he
              rw [h1, Nat.add_zero]
              exact .iptr cs _ _ (own_CRel ihn (own hg h3) hc.1 hw hcs)
            · cases h
          · cases h
        · cases h
      · cases h
    | iptr cs b o hc => simp [ownV] at hw
    | slice b off len cap hbn hl hcap =>
      simp only [frz] at h
      simp only [ownV] at hw
      split at h
      · rename_i sz els hg
        rw [hg] at hw
        simp only [] at hw
        split at h
        · rename_i hle
          split at h
          · rename_i es hes
            cases h
            have hle := Nat.le_of_ble_eq_true hle
            obtain ⟨h1, h2, c, elem, fr, h3, _, h4, h5, _⟩ := (hR.live b _ hg).1
            have hd := (h5.drop off).take len
            rw [h1]
            refine .data sz false es _ _ len cap ?_ hl (by simp) (own_DRel ih (own hg h3) hd hw hes)
            rw [mapO_length hes]
            simp; omega
          · cases h
        · cases h
      · cases h
    | view b off len hbn hcap =>
      simp only [frz] at h
      simp only [ownV] at hw
      split at h
      · rename_i sz els hg
        rw [hg] at hw
        simp only [] at hw
        split at h
        · rename_i hle
          split at h
          · rename_i es hes
            cases h
            have hle := Nat.le_of_ble_eq_true hle
            obtain ⟨h1, h2, c, elem, fr, h3, _, h4, h5, _⟩ := (hR.live b _ hg).1
            have hd := (h5.drop off).take len
            rw [h1]
            refine .data sz true es _ _ len len ?_ (Nat.le_refl _) (by simp) (own_DRel ih (own hg h3) hd hw hes)
            rw [mapO_length hes]
            simp; omega
          · cases h
        · cases h
      · cases h
    | data sz t els b o len cap hlen hl ht hd =>
      simp only [ownV] at hw
      cases els with
      | cons x xs => cases hw
      | nil =>
        simp only [frz, mapO] at h
        cases h
        exact .data sz t [] b o len cap hlen hl ht (.nil _ _ _)
    | map b hb => simp [frz] at h
    | yld b hb => simp [frz] at h
    | endS b off o cap hb hc ho => simp [ownV] at hw
    | func fn fs cs fs' cs' hf hc => simp [ownV] at hw
    | iface t v v' hv =>
      simp only [frz] at h
      split at h
      · rename_i y hy
        cases h
        exact .iface t y v' (ihn v y v' hw hv hy)
      · cases h
    | agg cs cs' hc =>
      simp only [frz] at h
      split at h
      · rename_i y hy
        cases h
        exact .agg y cs' (own_LRel ihn hc hw hy)
      · cases h
    | tuple cs cs' hc =>
      simp only [frz] at h
      split at h
      · rename_i y hy
        cases h
        exact .tuple y cs' (own_LRel ihn hc hw hy)
      · cases h
end

def ownE (σ : AStore) (n : Nat) : AEnd → Bool
  | .ret v => ownV σ n v
  | .pan v => ownV σ n v

/-- Memory that is lent: told of for the time of the call. -/
theorem ACalls.pureT {E : Env} (hG : ∀ g, WF 0 (E.G g)) {f : FuncId} {args : List AVal} {R : AEnd → AStore → Prop} {N : Nat} (h : ACalls E f args empty R)
    (hF : ∀ e σ0, R e σ0 → ∃ u, frzE σ0 N e = some u ∧ ownE σ0 N e = true) (σ : AStore) {M : Nat} {bs : List Nat} {args1 : List AVal} (hz : mapO (frz (σ.only bs) M) args1 = some args) :
    ACalls E f args1 σ fun e σ' => σ' = σ ∧ ∃ e0 σ0, R e0 σ0 ∧ frzE σ0 N e0 = some e := by
  intro ι H w args' hR hargs1
  obtain ⟨Hz, hRz, hEz, hTz⟩ := Rel.freezes bs hR
  have hR2 : Rel E ι H (σ.only bs) w := hR.restrict rfl (fun b x hx => (AStore.only_get hx).2) (fun p hp => by simp [AStore.only] at hp)
  have hok := frz_ok (ι0 := ι) (H2 := Hz) hR2 hEz.imm.cle (fun b x hx c e f hc o v hv => hTz b x (AStore.only_get hx).1 (AStore.only_get hx).2 c e f hc o v hv) M M (Nat.le_refl _)
  have hargsz : LRel 0 ι Hz args args' := frz_LRel hok (σ := σ.only bs) hargs1 hz
  have hle : Hz.Le (Hz.over w) := fun c o hc => by simp [Imm.over, hc]
  have imm0 : ∀ c o, (Hz.over w) c = some o → w.heap[c]? = some o.2 := by
    intro c o hc
    unfold Imm.over at hc
    cases hx : Hz c with
    | some x => rw [hx] at hc; cases hc; exact hRz.imm c _ hx
    | none =>
      rw [hx] at hc
      cases hy : w.heap[c]? with
      | none => simp [hy] at hc
      | some y => simp [hy] at hc; subst hc; rfl
  have hR0 : Rel E ι (Hz.over w) empty w :=
    { imm := imm0
      live := fun b x h => by simp [AStore.fin empty b (Nat.zero_le _)] at h
      inj := fun b b' x x' h => by simp [AStore.fin empty b (Nat.zero_le _)] at h
      glob := fun g => VRel.mono (m := 0) (fun _ h => by omega) (Nat.le_refl _) hle.cle (hRz.glob g) (hG g)
      keep := hR.keep
      tys := fun b t h => by simp [empty] at h }
  have hargs0 : LRel 0 ι (Hz.over w) args args' := LRel.mono (m := 0) (fun _ h => by omega) (Nat.le_refl _) hle.cle hargsz hargsz.wf
  refine Calls.mono (h ι (Hz.over w) w args' hR0 hargs0) ?_
  rintro e w' ⟨ι', H', σ0, ae, hr, he, hR', hx⟩
  obtain ⟨u, hu, hown⟩ := hF ae σ0 hr
  have hold : ∀ (c : Nat) (o : Obj), w.heap[c]? = some o → w'.heap[c]? = some o := by
    intro c o hc
    cases hHc : (Hz.over w) c with
    | some x =>
      have := imm0 c x hHc
      rw [hc] at this
      cases this
      exact hR'.imm c x (hx.imm c x hHc)
    | none =>
      unfold Imm.over at hHc
      split at hHc
      · cases hHc
      · simp [hc] at hHc
  have hsz : w.heap.size ≤ w'.heap.size := by
    rcases Nat.eq_zero_or_pos w.heap.size with h0 | h0
    · omega
    · have := hold (w.heap.size - 1) (w.heap[w.heap.size - 1]'(by omega)) (by simp [show w.heap.size - 1 < w.heap.size by omega])
      have := heap_lt this
      omega
  have hlt : ∀ (c : Nat), c < w.heap.size → w'.heap[c]? = w.heap[c]? := by
    intro c hc
    rw [hold c w.heap[c] (by simp [hc])]
    simp [hc]
  have hp2 : ∀ b, ¬ b < w.heap.size → H.past H' w w' b = match H' b with | some x => some x | none => (w'.heap[b]?).map (true, ·) := fun b hb => by unfold Imm.past; rw [if_neg hb]; cases H' b <;> rfl
  have hnew : ∀ (b : Nat) c e f, w'.heap[b]? = some (.cells c e f) → H' b = none → ∀ o v, c[o]? = some v → (H.past H' w w').cell? b o = some v := by
    intro b c e f hb hn o v ho
    have hbs : ¬ b < w.heap.size := by
      intro hb'
      cases hHo : (Hz.over w) b with
      | some x => rw [hx.imm b x hHo] at hn; cases hn
      | none =>
        unfold Imm.over at hHo
        split at hHo
        · cases hHo
        · simp [hb'] at hHo
    unfold Imm.cell?
    rw [hp2 b hbs, hn]
    simp only [hb, Option.map_some]
    exact ho
  have hfrz := own_ok (ι0 := ι) (H2 := H.past H' w w') hR' (fun b x hx c e f hc o v ho => hnew _ c e f hc (hR'.live b x hx).2.1 o v ho) N N (Nat.le_refl _)
  have hLe : H.Le (H.past H' w w') := by
    intro c o hc
    have := heap_lt (hR.imm c o hc)
    simp [Imm.past, this, hc]
  have hE : Ext σ.next ι H σ.next ι (H.past H' w w') := ⟨Nat.le_refl _, fun _ _ => rfl, hLe⟩
  refine ⟨ι, H.past H' w w', σ, u, ⟨rfl, ae, σ0, hr, hu⟩, ?_, ?_, hE⟩
  · have up : ∀ {v : AVal} {v' : Value}, VRel 0 ι (H.past H' w w') v v' → VRel σ.next ι (H.past H' w w') v v' :=
      fun h => VRel.mono (m := 0) (fun _ h => by omega) (Nat.zero_le _) (fun _ _ _ h => h) h h.wf
    cases he with
    | ret v v' hv =>
      simp only [frzE] at hu
      split at hu
      · rename_i y hy
        cases hu
        exact .ret _ _ (up (hfrz v y v' hown hv hy))
      · cases hu
    | pan v v' hv =>
      simp only [frzE] at hu
      split at hu
      · rename_i y hy
        cases hu
        exact .pan _ _ (up (hfrz v y v' hown hv hy))
      · cases hu
  · refine ⟨?_, ?_, hR.inj, fun g => (hR.glob g).ext hE, hR'.keep, hR.tys⟩
    · intro c o hc
      unfold Imm.past at hc
      split at hc
      · exact hold c _ (hR.imm c o hc)
      · split at hc
        · rename_i x hx'
          cases hc
          exact hR'.imm c _ hx'
        · cases hy : w'.heap[c]? with
          | none => simp [hy] at hc
          | some y => simp [hy] at hc; subst hc; rfl
    · intro b x hbx
      obtain ⟨h1, h2, h3⟩ := hR.live b x hbx
      refine ⟨h1.ext hE (hlt _ h3) hsz ?_, ?_, by omega⟩
      · rintro m since seen rfl
        exact hlt _ h1.1.2.1
      · simp [Imm.past, h3, h2]
end Abs
