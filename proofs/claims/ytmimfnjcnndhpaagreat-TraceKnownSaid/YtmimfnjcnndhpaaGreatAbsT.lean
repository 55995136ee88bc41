/-
  Part of the abstract layer (T): values, stores and steps that stand for those of the model, and the proof that they do. It proves no statement by itself.
-/
import Derived.Test.YtmimfnjcnndhpaaGreatAbsP
import Derived.Test.YtmimfnjcnndhpaaGreatAbsM
noncomputable section
namespace Abs
set_option linter.unusedVariables false
set_option linter.unusedSimpArgs false
set_option linter.unusedSectionVars false
open Go

/-! ### A call that has nothing to do with the store -/

def empty : AStore := ⟨.leaf, 0, []⟩

def mapO {α β : Type} (f : α → Option β) : List α → Option (List β)
  | [] => some []
  | x :: xs => match f x with
    | none => none
    | some y => match mapO f xs with
      | none => none
      | some ys => some (y :: ys)

/-- The value, all that it leads to put into it: no one may write there any more. -/
def frz (σ : AStore) : Nat → AVal → Option AVal
  | 0, _ => none
  | _ + 1, .sc v => some (.sc v)
  | n + 1, .ptr b i k =>
    match k with
    | 0 => match σ.get b with
      | some (.cells _ els) => match els[i]? with
        | some e => match mapO (frz σ n) e.cells with
          | some cs => some (.iptr cs)
          | none => none
        | none => none
      | _ => none
    | _ + 1 => none
  | n + 1, .iptr cs => match mapO (frz σ n) cs with
    | some cs => some (.iptr cs)
    | none => none
  | n + 1, .slice b off len =>
    match σ.get b with
    | some (.cells sz els) =>
      match Nat.ble (off + len) els.length with
      | true =>
        match mapO (frz σ n) ((els.drop off).take len) with
        | some es => some (.data sz false es)
        | none => none
      | false => none
    | _ => none
  | n + 1, .view b off len =>
    match σ.get b with
    | some (.cells sz els) =>
      match Nat.ble (off + len) els.length with
      | true =>
        match mapO (frz σ n) ((els.drop off).take len) with
        | some es => some (.data sz true es)
        | none => none
      | false => none
    | _ => none
  | n + 1, .data sz t els => match mapO (frz σ n) els with
    | some es => some (.data sz t es)
    | none => none
  | _ + 1, .map _ => none
  | _ + 1, .yld _ => none
  | _ + 1, .endS b _ =>
    match σ.get b with
    | some (.cells sz _) => some (.data sz false [])
    | _ => none
  | n + 1, .func fn a b => match mapO (frz σ n) a with
    | some a => match mapO (frz σ n) b with
      | some b => some (.func fn a b)
      | none => none
    | none => none
  | n + 1, .iface t v => match frz σ n v with
    | some v => some (.iface t v)
    | none => none
  | n + 1, .agg cs => match mapO (frz σ n) cs with
    | some cs => some (.agg cs)
    | none => none
  | n + 1, .tuple cs => match mapO (frz σ n) cs with
    | some cs => some (.tuple cs)
    | none => none

theorem mapO_length {α β : Type} {f : α → Option β} : ∀ {l : List α} {r : List β}, mapO f l = some r → r.length = l.length
  | [], r, h => by simp only [mapO, Option.some.injEq] at h; subst h; rfl
  | x :: xs, r, h => by
      unfold mapO at h
      split at h
      · cases h
      · split at h
        · cases h
        · rename_i ys hys
          cases h
          simp [mapO_length hys]

theorem mapO_cons {α β : Type} {f : α → Option β} {x : α} {xs : List α} {r : List β} (h : mapO f (x :: xs) = some r) : ∃ y ys, f x = some y ∧ mapO f xs = some ys ∧ r = y :: ys := by
  unfold mapO at h
  split at h
  · cases h
  · rename_i y hy
    split at h
    · cases h
    · rename_i ys hys
      cases h
      exact ⟨y, ys, hy, hys, rfl⟩

theorem frz_isAgg {σ : AStore} {n : Nat} {v u : AVal} (h : frz σ n v = some u) : u.isAgg = v.isAgg := by
  cases n with
  | zero => simp [frz] at h
  | succ n =>
    cases v <;> simp only [frz] at h
    case sc v => cases h; rfl
    case ptr b i k =>
      split at h
      · split at h
        · split at h
          · split at h
            · cases h; rfl
            · cases h
          · cases h
        · cases h
      · cases h
    case iptr cs => split at h <;> cases h; rfl
    case slice b off len =>
      split at h
      · split at h
        · split at h <;> cases h; rfl
        · cases h
      · cases h
    case view b off len =>
      split at h
      · split at h
        · split at h <;> cases h; rfl
        · cases h
      · cases h
    case data sz t els => split at h <;> cases h; rfl
    case map b => cases h
    case yld b => cases h
    case endS b o => split at h <;> cases h; rfl
    case func fn a b =>
      split at h
      · split at h <;> cases h; rfl
      · cases h
    case iface t v => split at h <;> cases h; rfl
    case agg cs => split at h <;> cases h; rfl
    case tuple cs => split at h <;> cases h; rfl

section
variable {E : Env} {ι ι0 : Inj} {H H2 : Imm} {σ : AStore} {w : World}

def FrzOk (ι ι0 : Inj) (H H2 : Imm) (σ : AStore) (n : Nat) : Prop := ∀ v u v', VRel σ.next ι H v v' → frz σ n v = some u → VRel 0 ι0 H2 u v'

theorem frz_LRel {n : Nat} (hP : FrzOk ι ι0 H H2 σ n) : ∀ {vs us : List AVal} {ws : List Value}, LRel σ.next ι H vs ws → mapO (frz σ n) vs = some us → LRel 0 ι0 H2 us ws
  | _, us, _, .nil, h => by simp only [mapO, Option.some.injEq] at h; subst h; exact .nil
  | _, us, _, .cons v w vs ws hv hs, h => by
      obtain ⟨y, ys, h1, h2, rfl⟩ := mapO_cons h
      exact .cons y w ys ws (hP v y w hv h1) (frz_LRel hP hs h2)

theorem frz_CRel {n : Nat} (hP : FrzOk ι ι0 H H2 σ n) {g g' : Nat → Option Value} (hg : RLe g g') : ∀ {vs us : List AVal} {o : Nat}, CRel σ.next ι H g vs o → mapO (frz σ n) vs = some us → CRel 0 ι0 H2 g' us o
  | _, us, _, .nil _ o, h => by simp only [mapO, Option.some.injEq] at h; subst h; exact .nil g' o
  | _, us, _, .cons _ v w vs o ho hv hs, h => by
      obtain ⟨y, ys, h1, h2, rfl⟩ := mapO_cons h
      exact .cons g' y w ys o (hg _ _ ho) (hP v y w hv h1) (frz_CRel hP hg hs h2)

theorem frz_DRel {n : Nat} (hP : ∀ m, m ≤ n → FrzOk ι ι0 H H2 σ m) {g g' : Nat → Option Value} (hg : RLe g g') : ∀ {sz : Nat} {vs us : List AVal} {o : Nat}, DRel σ.next ι H g sz vs o →
    mapO (frz σ n) vs = some us → DRel 0 ι0 H2 g' sz us o
  | _, _, us, _, .nil _ sz o, h => by simp only [mapO, Option.some.injEq] at h; subst h; exact .nil g' sz o
  | _, _, us, _, .agg _ sz cs es o hsz hc hs, h => by
      obtain ⟨y, ys, h1, h2, rfl⟩ := mapO_cons h
      cases n with
      | zero => simp [frz] at h1
      | succ n =>
        simp only [frz] at h1
        split at h1
        · rename_i cs' hcs
          cases h1
          exact .agg g' sz cs' ys o ((mapO_length hcs).trans hsz) (frz_CRel (hP n (by omega)) hg hc hcs) (frz_DRel hP hg hs h2)
        · cases h1
  | _, _, us, _, .one _ v w es o hv ho hr hs, h => by
      obtain ⟨y, ys, h1, h2, rfl⟩ := mapO_cons h
      exact .one g' y w ys o ((frz_isAgg h1).trans hv) (hg _ _ ho) (hP n (Nat.le_refl _) v y w hr h1) (frz_DRel hP hg hs h2)

theorem frz_ok (hR : Rel E ι H σ w) (hH : H.CLe H2) (hb : ∀ b x, σ.get b = some x → ∀ c e f, w.heap[(ι b).blk]? = some (.cells c e f) → ∀ o v, c[o]? = some v → H2.cell? (ι b).blk o = some v) (n : Nat) :
    ∀ m, m ≤ n → FrzOk ι ι0 H H2 σ m := by
  induction n with
  | zero =>
    intro m hm v u v' hv h
    have : m = 0 := by omega
    subst this
    simp [frz] at h
  | succ n ih =>
    intro m hm
    rcases Nat.lt_or_ge m (n + 1) with hlt | hge
    · exact ih m (by omega)
    have : m = n + 1 := by omega
    subst this
    intro v u v' hv h
    have ihn := ih n (Nat.le_refl _)
    have own : ∀ {b : Nat} {x : ABlk}, σ.get b = some x → ∀ {c e f}, w.heap[(ι b).blk]? = some (.cells c e f) → RLe (c[·]?) (H2.cell? (ι b).blk) := by
      intro b x hx c e f hc o v ho
      exact hb b x hx _ _ _ hc o v ho
    cases hv with
    | sc => simp only [frz] at h; cases h; exact .sc _
    | ptr b i k hbn =>
      simp only [frz] at h
      split at h
      · split at h
        · rename_i sz els hg
          split at h
          · rename_i e he
            split at h
            · rename_i cs hcs
              cases h
              obtain ⟨h1, h2, c, elem, fr, h3, _, h4, h5, _⟩ := (hR.live b _ hg).1
              have hc := h5.get he
              rw [h1, Nat.add_zero]
              exact .iptr cs _ _ (frz_CRel ihn (own hg h3) hc.1 hcs)
            · cases h
          · cases h
        · cases h
      · cases h
    | iptr cs b o hc =>
      simp only [frz] at h
      split at h
      · rename_i cs' hcs
        cases h
        exact .iptr cs' b o (frz_CRel ihn (fun _ _ h => hH _ _ _ h) hc hcs)
      · cases h
    | slice b off len cap hbn hl hcap =>
      simp only [frz] at h
      split at h
      · rename_i sz els hg
        split at h
        · rename_i hle
          split at h
          · rename_i es hes
            cases h
            have hle := Nat.le_of_ble_eq_true hle
            obtain ⟨h1, h2, c, elem, fr, h3, _, h4, h5, _⟩ := (hR.live b _ hg).1
            have hd := (h5.drop off).take len
            rw [h1]
            refine .data sz false es _ _ len cap ?_ hl (by simp) (frz_DRel ih (own hg h3) hd hes)
            rw [mapO_length hes]
            simp; omega
          · cases h
        · cases h
      · cases h
    | view b off len hbn hcap =>
      simp only [frz] at h
      split at h
      · rename_i sz els hg
        split at h
        · rename_i hle
          split at h
          · rename_i es hes
            cases h
            have hle := Nat.le_of_ble_eq_true hle
            obtain ⟨h1, h2, c, elem, fr, h3, _, h4, h5, _⟩ := (hR.live b _ hg).1
            have hd := (h5.drop off).take len
            rw [h1]
            refine .data sz true es _ _ len len ?_ (Nat.le_refl _) (by simp) (frz_DRel ih (own hg h3) hd hes)
            rw [mapO_length hes]
            simp; omega
          · cases h
        · cases h
      · cases h
    | data sz t els b o len cap hlen hl ht hd =>
      simp only [frz] at h
      split at h
      · rename_i es hes
        cases h
        exact .data sz t es b o len cap (by rw [mapO_length hes]; exact hlen) hl ht (frz_DRel ih (fun _ _ h => hH _ _ _ h) hd hes)
      · cases h
    | map b hb => simp [frz] at h
    | yld b hb => simp [frz] at h
    | endS b off o cap hb hc ho =>
      simp only [frz] at h
      split at h
      · cases h; exact .data _ false [] _ o 0 cap rfl (Nat.zero_le _) (by simp) (.nil _ _ _)
      · cases h
    | func fn fs cs fs' cs' hf hc =>
      simp only [frz] at h
      split at h
      · rename_i a ha
        split at h
        · rename_i b' hb'
          cases h
          exact .func fn a b' fs' cs' (frz_LRel ihn hf ha) (frz_LRel ihn hc hb')
        · cases h
      · cases h
    | iface t v v' hv =>
      simp only [frz] at h
      split at h
      · rename_i y hy
        cases h
        exact .iface t y v' (ihn v y v' hv hy)
      · cases h
    | agg cs cs' hc =>
      simp only [frz] at h
      split at h
      · rename_i y hy
        cases h
        exact .agg y cs' (frz_LRel ihn hc hy)
      · cases h
    | tuple cs cs' hc =>
      simp only [frz] at h
      split at h
      · rename_i y hy
        cases h
        exact .tuple y cs' (frz_LRel ihn hc hy)
      · cases h
end

def frzE (σ : AStore) (n : Nat) : AEnd → Option AEnd
  | .ret v => match frz σ n v with
    | some v => some (.ret v)
    | none => none
  | .pan v => match frz σ n v with
    | some v => some (.pan v)
    | none => none

/-- All that lies there is fixed; what was not before: nothing is told of it. -/
def Imm.over (H : Imm) (w : World) : Imm := fun c => match H c with
  | some x => some x
  | none => (w.heap[c]?).map (false, ·)

/-- As before, and what is new is fixed. -/
def Imm.past (H H' : Imm) (w w' : World) : Imm := fun c => if c < w.heap.size then H c else match H' c with
  | some x => some x
  | none => (w'.heap[c]?).map (true, ·)

theorem heap_lt {w : World} {c : Nat} {o : Obj} (h : w.heap[c]? = some o) : c < w.heap.size := by
  rcases Nat.lt_or_ge c w.heap.size with h' | h'
  · exact h'
  · simp [Array.getElem?_eq_none h'] at h

theorem ACalls.pure {E : Env} (hG : ∀ g, WF 0 (E.G g)) {f : FuncId} {args : List AVal} (ha : WFs 0 args) {R : AEnd → AStore → Prop} {N : Nat} (h : ACalls E f args empty R)
    (hF : ∀ e σ0, R e σ0 → ∃ u, frzE σ0 N e = some u) (σ : AStore) : ACalls E f args σ fun e σ' => σ' = σ ∧ ∃ e0 σ0, R e0 σ0 ∧ frzE σ0 N e0 = some e := by
  intro ι H w args' hR hargs
  have hle : H.Le (H.over w) := fun c o hc => by simp [Imm.over, hc]
  have imm0 : ∀ c o, (H.over w) c = some o → w.heap[c]? = some o.2 := by
    intro c o hc
    unfold Imm.over at hc
    cases hx : H c with
    | some x => rw [hx] at hc; cases hc; exact hR.imm c _ hx
    | none =>
      rw [hx] at hc
      cases hy : w.heap[c]? with
      | none => simp [hy] at hc
      | some y => simp [hy] at hc; subst hc; rfl
  have hR0 : Rel E ι (H.over w) empty w :=
    { imm := imm0
      live := fun b x h => by simp [AStore.fin empty b (Nat.zero_le _)] at h
      inj := fun b b' x x' h => by simp [AStore.fin empty b (Nat.zero_le _)] at h
      glob := fun g => VRel.mono (m := 0) (fun _ h => by omega) (Nat.le_refl _) hle.cle (hR.glob g) (hG g)
      keep := hR.keep
      tys := fun b t h => by simp [empty] at h }
  have hargs0 : LRel 0 ι (H.over w) args args' := LRel.mono (m := 0) (fun _ h => by omega) (Nat.le_refl _) hle.cle hargs ha
  refine Calls.mono (h ι (H.over w) w args' hR0 hargs0) ?_
  rintro e w' ⟨ι', H', σ0, ae, hr, he, hR', hx⟩
  obtain ⟨u, hu⟩ := hF ae σ0 hr
  -- what was, is
  have hold : ∀ (c : Nat) (o : Obj), w.heap[c]? = some o → w'.heap[c]? = some o := by
    intro c o hc
    cases hHc : (H.over w) c with
    | some x =>
      have := imm0 c x hHc
      rw [hc] at this
      cases this
      exact hR'.imm c x (hx.imm c x hHc)
    | none =>
      unfold Imm.over at hHc
      split at hHc
      · cases hHc
      · simp [hc] at hHc
  have hsz : w.heap.size ≤ w'.heap.size := by
    rcases Nat.eq_zero_or_pos w.heap.size with h0 | h0
    · omega
    · have := hold (w.heap.size - 1) (w.heap[w.heap.size - 1]'(by omega)) (by simp [show w.heap.size - 1 < w.heap.size by omega])
      have := heap_lt this
      omega
  have hlt : ∀ (c : Nat), c < w.heap.size → w'.heap[c]? = w.heap[c]? := by
    intro c hc
    rw [hold c w.heap[c] (by simp [hc])]
    simp [hc]
  -- what is told
  have hp1 : ∀ b, b < w.heap.size → H.past H' w w' b = H b := fun b hb => by simp only [Imm.past, if_pos hb]
  have hp2 : ∀ b, ¬ b < w.heap.size → H.past H' w w' b = match H' b with | some x => some x | none => (w'.heap[b]?).map (true, ·) := fun b hb => by simp only [Imm.past, if_neg hb]
  have hover : ∀ b, b < w.heap.size → ∃ x, (H.over w) b = some x := by
    intro b hb
    unfold Imm.over
    cases hHc : H b with
    | some y => exact ⟨y, rfl⟩
    | none => exact ⟨(false, w.heap[b]), by simp [hb]⟩
  have hcle : H'.CLe (H.past H' w w') := by
    intro b o v hc
    unfold Imm.cell? at hc ⊢
    by_cases hb : b < w.heap.size
    · obtain ⟨x, hHb⟩ := hover b hb
      have h1 := hx.imm b x hHb
      rw [h1] at hc
      rw [hp1 b hb]
      unfold Imm.over at hHb
      cases hHc : H b with
      | some y => rw [hHc] at hHb; cases hHb; exact hc
      | none => rw [hHc] at hHb; simp [hb] at hHb; subst hHb; cases hc
    · rw [hp2 b hb]
      cases hHb : H' b with
      | none => rw [hHb] at hc; cases hc
      | some x => rw [hHb] at hc; exact hc
  have hnew : ∀ (b : Nat) c e f, w'.heap[b]? = some (.cells c e f) → H' b = none → ∀ o v, c[o]? = some v → (H.past H' w w').cell? b o = some v := by
    intro b c e f hb hn o v ho
    have hbs : ¬ b < w.heap.size := by
      intro hb'
      cases hHo : (H.over w) b with
      | some x => rw [hx.imm b x hHo] at hn; cases hn
      | none =>
        unfold Imm.over at hHo
        split at hHo
        · cases hHo
        · simp [hb'] at hHo
    unfold Imm.cell?
    rw [hp2 b hbs, hn]
    simp only [hb, Option.map_some]
    exact ho
  have hfrz := frz_ok (ι0 := ι) hR' hcle (fun b x hx c e f hc o v ho => hnew _ c e f hc (hR'.live b x hx).2.1 o v ho) N N (Nat.le_refl _)
  have hLe : H.Le (H.past H' w w') := by
    intro c o hc
    have := heap_lt (hR.imm c o hc)
    simp [Imm.past, this, hc]
  have hE : Ext σ.next ι H σ.next ι (H.past H' w w') := ⟨Nat.le_refl _, fun _ _ => rfl, hLe⟩
  refine ⟨ι, H.past H' w w', σ, u, ⟨rfl, ae, σ0, hr, hu⟩, ?_, ?_, hE⟩
  · have up : ∀ {v : AVal} {v' : Value}, VRel 0 ι (H.past H' w w') v v' → VRel σ.next ι (H.past H' w w') v v' :=
      fun h => VRel.mono (m := 0) (fun _ h => by omega) (Nat.zero_le _) (fun _ _ _ h => h) h h.wf
    cases he with
    | ret v v' hv =>
      simp only [frzE] at hu
      split at hu
      · rename_i y hy
        cases hu
        exact .ret _ _ (up (hfrz v y v' hv hy))
      · cases hu
    | pan v v' hv =>
      simp only [frzE] at hu
      split at hu
      · rename_i y hy
        cases hu
        exact .pan _ _ (up (hfrz v y v' hv hy))
      · cases hu
  · refine ⟨?_, ?_, hR.inj, fun g => (hR.glob g).ext hE, hR'.keep, hR.tys⟩
    · intro c o hc
      unfold Imm.past at hc
      split at hc
      · exact hold c _ (hR.imm c o hc)
      · split at hc
        · rename_i x hx'
          cases hc
          exact hR'.imm c _ hx'
        · cases hy : w'.heap[c]? with
          | none => simp [hy] at hc
          | some y => simp [hy] at hc; subst hc; rfl
    · intro b x hbx
      obtain ⟨h1, h2, h3⟩ := hR.live b x hbx
      refine ⟨h1.ext hE (hlt _ h3) hsz ?_, ?_, by omega⟩
      · rintro m since seen rfl
        exact hlt _ h1.1.2.1
      · simp [Imm.past, h3, h2]
end Abs
