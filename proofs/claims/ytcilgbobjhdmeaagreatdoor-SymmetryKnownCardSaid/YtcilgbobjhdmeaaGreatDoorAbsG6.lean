/-
  Part of the abstract layer (Fb U V W): values, stores and steps that stand for those of the model, and the proof that they do. It proves no statement by itself.
-/
import Derived.Test.YtcilgbobjhdmeaaGreatDoorAbsG5
import Derived.RecoverIn
noncomputable section
namespace Abs
set_option linter.unusedVariables false
set_option linter.unusedSimpArgs false
set_option linter.unusedSectionVars false
open Go

/-! ### A call that is lent memory: it has nothing to do with the store, but reads what it is handed -/

/-- What the call has made itself: nothing in it was there before. -/
def ownV (σ : AStore) : Nat → AVal → Bool
  | 0, _ => false
  | _ + 1, .sc _ => true
  | n + 1, .ptr b i _ => match σ.get b with
    | some (.cells _ els) => match els[i]? with
      | some e => e.cells.all (ownV σ n)
      | none => false
    | _ => false
  | n + 1, .slice b off len => match σ.get b with
    | some (.cells _ els) => ((els.drop off).take len).all (ownV σ n)
    | _ => false
  | n + 1, .view b off len => match σ.get b with
    | some (.cells _ els) => ((els.drop off).take len).all (ownV σ n)
    | _ => false
  | _ + 1, .data _ _ els => match els with
    | [] => true
    | _ :: _ => false
  | n + 1, .iface _ v => ownV σ n v
  | n + 1, .agg cs => cs.all (ownV σ n)
  | n + 1, .tuple cs => cs.all (ownV σ n)
  | _ + 1, .iptr _ | _ + 1, .map _ | _ + 1, .yld _ | _ + 1, .endS _ _ | _ + 1, .func _ _ _ => false

section
variable {E : Env} {ι ι0 : Inj} {H H2 : Imm} {σ : AStore} {w : World}

def OwnOk (ι ι0 : Inj) (H H2 : Imm) (σ : AStore) (n : Nat) : Prop := ∀ v u v', ownV σ n v = true → VRel σ.next ι H v v' → frz σ n v = some u → VRel 0 ι0 H2 u v'

theorem own_LRel {n : Nat} (hP : OwnOk ι ι0 H H2 σ n) : ∀ {vs us : List AVal} {ws : List Value}, LRel σ.next ι H vs ws → vs.all (ownV σ n) = true → mapO (frz σ n) vs = some us → LRel 0 ι0 H2 us ws
  | _, us, _, .nil, _, h => by simp only [mapO, Option.some.injEq] at h; subst h; exact .nil
  | _, us, _, .cons v w vs ws hv hs, ho, h => by
      obtain ⟨y, ys, h1, h2, rfl⟩ := mapO_cons h
      simp only [List.all_cons, Bool.and_eq_true] at ho
      exact .cons y w ys ws (hP v y w ho.1 hv h1) (own_LRel hP hs ho.2 h2)

theorem own_CRel {n : Nat} (hP : OwnOk ι ι0 H H2 σ n) {g g' : Nat → Option Value} (hg : RLe g g') : ∀ {vs us : List AVal} {o : Nat}, CRel σ.next ι H g vs o → vs.all (ownV σ n) = true → mapO (frz σ n) vs = some us → CRel 0 ι0 H2 g' us o
  | _, us, _, .nil _ o, _, h => by simp only [mapO, Option.some.injEq] at h; subst h; exact .nil g' o
  | _, us, _, .cons _ v w vs o ho hv hs, hw, h => by
      obtain ⟨y, ys, h1, h2, rfl⟩ := mapO_cons h
      simp only [List.all_cons, Bool.and_eq_true] at hw
      exact .cons g' y w ys o (hg _ _ ho) (hP v y w hw.1 hv h1) (own_CRel hP hg hs hw.2 h2)

theorem own_DRel {n : Nat} (hP : ∀ m, m ≤ n → OwnOk ι ι0 H H2 σ m) {g g' : Nat → Option Value} (hg : RLe g g') : ∀ {sz : Nat} {vs us : List AVal} {o : Nat}, DRel σ.next ι H g sz vs o → vs.all (ownV σ n) = true →
    mapO (frz σ n) vs = some us → DRel 0 ι0 H2 g' sz us o
  | _, _, us, _, .nil _ sz o, _, h => by simp only [mapO, Option.some.injEq] at h; subst h; exact .nil g' sz o
  | _, _, us, _, .agg _ sz cs es o hsz hc hs, hw, h => by
      obtain ⟨y, ys, h1, h2, rfl⟩ := mapO_cons h
      simp only [List.all_cons, Bool.and_eq_true] at hw
      cases n with
      | zero => simp [frz] at h1
      | succ n =>
        simp only [frz] at h1
        split at h1
        · rename_i cs' hcs
          cases h1
          have hwc : cs.all (ownV σ n) = true := hw.1
          exact .agg g' sz cs' ys o ((mapO_length hcs).trans hsz) (own_CRel (hP n (by omega)) hg hc hwc hcs) (own_DRel hP hg hs hw.2 h2)
        · cases h1
  | _, _, us, _, .one _ v w es o hv ho hr hs, hw, h => by
      obtain ⟨y, ys, h1, h2, rfl⟩ := mapO_cons h
      simp only [List.all_cons, Bool.and_eq_true] at hw
      exact .one g' y w ys o ((frz_isAgg h1).trans hv) (hg _ _ ho) (hP n (Nat.le_refl _) v y w hw.1 hr h1) (own_DRel hP hg hs hw.2 h2)

theorem own_ok (hR : Rel E ι H σ w) (hb : ∀ b x, σ.get b = some x → ∀ c e f, w.heap[(ι b).blk]? = some (.cells c e f) → ∀ o v, c[o]? = some v → H2.cell? (ι b).blk o = some v) (n : Nat) :
    ∀ m, m ≤ n → OwnOk ι ι0 H H2 σ m := by
  induction n with
  | zero =>
    intro m hm v u v' hw hv h
    have : m = 0 := by omega
    subst this
    simp [frz] at h
  | succ n ih =>
    intro m hm
    rcases Nat.lt_or_ge m (n + 1) with hlt | hge
    · exact ih m (by omega)
    have : m = n + 1 := by omega
    subst this
    intro v u v' hw hv h
    have ihn := ih n (Nat.le_refl _)
    have own : ∀ {b : Nat} {x : ABlk}, σ.get b = some x → ∀ {c e f}, w.heap[(ι b).blk]? = some (.cells c e f) → RLe (c[·]?) (H2.cell? (ι b).blk) := by
      intro b x hx c e f hc o v ho
      exact hb b x hx _ _ _ hc o v ho
    cases hv with
    | sc => simp only [frz] at h; cases h; exact .sc _
    | ptr b i k hbn =>
      simp only [frz] at h
      simp only [ownV] at hw
      split at h
      · split at h
        · rename_i sz els hg
          rw [hg] at hw
          simp only [] at hw
          split at h
          · rename_i e he
            rw [he] at hw
            simp only [] at hw
            split at h
            · rename_i cs hcs
              cases h
              obtain ⟨h1, h2, c, elem, fr, h3, _, h4, h5, _⟩ := (hR.live b _ hg).1
              have hc := h5.get he
              rw [h1, Nat.add_zero]
              exact .iptr cs _ _ (own_CRel ihn (own hg h3) hc.1 hw hcs)
            · cases h
          · cases h
        · cases h
      · cases h
    | iptr cs b o hc => simp [ownV] at hw
    | slice b off len cap hbn hl hcap =>
      simp only [frz] at h
      simp only [ownV] at hw
      split at h
      · rename_i sz els hg
        rw [hg] at hw
        simp only [] at hw
        split at h
        · rename_i hle
          split at h
          · rename_i es hes
            cases h
            have hle := Nat.le_of_ble_eq_true hle
            obtain ⟨h1, h2, c, elem, fr, h3, _, h4, h5, _⟩ := (hR.live b _ hg).1
            have hd := (h5.drop off).take len
            rw [h1]
            refine .data sz false es _ _ len cap ?_ hl (by simp) (own_DRel ih (own hg h3) hd hw hes)
            rw [mapO_length hes]
            simp; omega
          · cases h
        · cases h
      · cases h
    | view b off len hbn hcap =>
      simp only [frz] at h
      simp only [ownV] at hw
      split at h
      · rename_i sz els hg
        rw [hg] at hw
        simp only [] at hw
        split at h
        · rename_i hle
          split at h
          · rename_i es hes
            cases h
            have hle := Nat.le_of_ble_eq_true hle
            obtain ⟨h1, h2, c, elem, fr, h3, _, h4, h5, _⟩ := (hR.live b _ hg).1
            have hd := (h5.drop off).take len
            rw [h1]
            refine .data sz true es _ _ len len ?_ (Nat.le_refl _) (by simp) (own_DRel ih (own hg h3) hd hw hes)
            rw [mapO_length hes]
            simp; omega
          · cases h
        · cases h
      · cases h
    | data sz t els b o len cap hlen hl ht hd =>
      simp only [ownV] at hw
      cases els with
      | cons x xs => cases hw
      | nil =>
        simp only [frz, mapO] at h
        cases h
        exact .data sz t [] b o len cap hlen hl ht (.nil _ _ _)
    | map b hb => simp [frz] at h
    | yld b hb => simp [frz] at h
    | endS b off o cap hb hc ho => simp [ownV] at hw
    | func fn fs cs fs' cs' hf hc => simp [ownV] at hw
    | iface t v v' hv =>
      simp only [frz] at h
      split at h
      · rename_i y hy
        cases h
        exact .iface t y v' (ihn v y v' hw hv hy)
      · cases h
    | agg cs cs' hc =>
      simp only [frz] at h
      split at h
      · rename_i y hy
        cases h
        exact .agg y cs' (own_LRel ihn hc hw hy)
      · cases h
    | tuple cs cs' hc =>
      simp only [frz] at h
      split at h
      · rename_i y hy
        cases h
        exact .tuple y cs' (own_LRel ihn hc hw hy)
      · cases h
end

def ownE (σ : AStore) (n : Nat) : AEnd → Bool
  | .ret v => ownV σ n v
  | .pan v => ownV σ n v

/-- Memory that is lent: told of for the time of the call. -/
theorem ACalls.pureT {E : Env} (hG : ∀ g, WF 0 (E.G g)) {f : FuncId} {args : List AVal} {R : AEnd → AStore → Prop} {N : Nat} (h : ACalls E f args empty R)
    (hF : ∀ e σ0, R e σ0 → ∃ u, frzE σ0 N e = some u ∧ ownE σ0 N e = true) (σ : AStore) {M : Nat} {bs : List Nat} {args1 : List AVal} (hz : mapO (frz (σ.only bs) M) args1 = some args) :
    ACalls E f args1 σ fun e σ' => σ' = σ ∧ ∃ e0 σ0, R e0 σ0 ∧ frzE σ0 N e0 = some e := by
  intro ι H w args' hR hargs1
  obtain ⟨Hz, hRz, hEz, hTz⟩ := Rel.freezes bs hR
  have hR2 : Rel E ι H (σ.only bs) w := hR.restrict rfl (fun b x hx => (AStore.only_get hx).2) (fun p hp => by simp [AStore.only] at hp)
  have hok := frz_ok (ι0 := ι) (H2 := Hz) hR2 hEz.imm.cle (fun b x hx c e f hc o v hv => hTz b x (AStore.only_get hx).1 (AStore.only_get hx).2 c e f hc o v hv) M M (Nat.le_refl _)
  have hargsz : LRel 0 ι Hz args args' := frz_LRel hok (σ := σ.only bs) hargs1 hz
  have hle : Hz.Le (Hz.over w) := fun c o hc => by simp [Imm.over, hc]
  have imm0 : ∀ c o, (Hz.over w) c = some o → w.heap[c]? = some o.2 := by
    intro c o hc
    unfold Imm.over at hc
    cases hx : Hz c with
    | some x => rw [hx] at hc; cases hc; exact hRz.imm c _ hx
    | none =>
      rw [hx] at hc
      cases hy : w.heap[c]? with
      | none => simp [hy] at hc
      | some y => simp [hy] at hc; subst hc; rfl
  have hR0 : Rel E ι (Hz.over w) empty w :=
    { imm := imm0
      live := fun b x h => by simp [AStore.fin empty b (Nat.zero_le _)] at h
      inj := fun b b' x x' h => by simp [AStore.fin empty b (Nat.zero_le _)] at h
      glob := fun g => VRel.mono (m := 0) (fun _ h => by omega) (Nat.le_refl _) hle.cle (hRz.glob g) (hG g)
      keep := hR.keep
      tys := fun b t h => by simp [empty] at h }
  have hargs0 : LRel 0 ι (Hz.over w) args args' := LRel.mono (m := 0) (fun _ h => by omega) (Nat.le_refl _) hle.cle hargsz hargsz.wf
  refine Calls.mono (h ι (Hz.over w) w args' hR0 hargs0) ?_
  rintro e w' ⟨ι', H', σ0, ae, hr, he, hR', hx⟩
  obtain ⟨u, hu, hown⟩ := hF ae σ0 hr
  have hold : ∀ (c : Nat) (o : Obj), w.heap[c]? = some o → w'.heap[c]? = some o := by
    intro c o hc
    cases hHc : (Hz.over w) c with
    | some x =>
      have := imm0 c x hHc
      rw [hc] at this
      cases this
      exact hR'.imm c x (hx.imm c x hHc)
    | none =>
      unfold Imm.over at hHc
      split at hHc
      · cases hHc
      · simp [hc] at hHc
  have hsz : w.heap.size ≤ w'.heap.size := by
    rcases Nat.eq_zero_or_pos w.heap.size with h0 | h0
    · omega
    · have := hold (w.heap.size - 1) (w.heap[w.heap.size - 1]'(by omega)) (by simp [show w.heap.size - 1 < w.heap.size by omega])
      have := heap_lt this
      omega
  have hlt : ∀ (c : Nat), c < w.heap.size → w'.heap[c]? = w.heap[c]? := by
    intro c hc
    rw [hold c w.heap[c] (by simp [hc])]
    simp [hc]
  have hp2 : ∀ b, ¬ b < w.heap.size → H.past H' w w' b = match H' b with | some x => some x | none => (w'.heap[b]?).map (true, ·) := fun b hb => by unfold Imm.past; rw [if_neg hb] <;> cases H' b <;> rfl
  have hnew : ∀ (b : Nat) c e f, w'.heap[b]? = some (.cells c e f) → H' b = none → ∀ o v, c[o]? = some v → (H.past H' w w').cell? b o = some v := by
    intro b c e f hb hn o v ho
    have hbs : ¬ b < w.heap.size := by
      intro hb'
      cases hHo : (Hz.over w) b with
      | some x => rw [hx.imm b x hHo] at hn; cases hn
      | none =>
        unfold Imm.over at hHo
        split at hHo
        · cases hHo
        · simp [hb'] at hHo
    unfold Imm.cell?
    rw [hp2 b hbs, hn]
    simp only [hb, Option.map_some]
    exact ho
  have hfrz := own_ok (ι0 := ι) (H2 := H.past H' w w') hR' (fun b x hx c e f hc o v ho => hnew _ c e f hc (hR'.live b x hx).2.1 o v ho) N N (Nat.le_refl _)
  have hLe : H.Le (H.past H' w w') := by
    intro c o hc
    have := heap_lt (hR.imm c o hc)
    simp [Imm.past, this, hc]
  have hE : Ext σ.next ι H σ.next ι (H.past H' w w') := ⟨Nat.le_refl _, fun _ _ => rfl, hLe⟩
  refine ⟨ι, H.past H' w w', σ, u, ⟨rfl, ae, σ0, hr, hu⟩, ?_, ?_, hE⟩
  · have up : ∀ {v : AVal} {v' : Value}, VRel 0 ι (H.past H' w w') v v' → VRel σ.next ι (H.past H' w w') v v' :=
      fun h => VRel.mono (m := 0) (fun _ h => by omega) (Nat.zero_le _) (fun _ _ _ h => h) h h.wf
    cases he with
    | ret v v' hv =>
      simp only [frzE] at hu
      split at hu
      · rename_i y hy
        cases hu
        exact .ret _ _ (up (hfrz v y v' hown hv hy))
      · cases hu
    | pan v v' hv =>
      simp only [frzE] at hu
      split at hu
      · rename_i y hy
        cases hu
        exact .pan _ _ (up (hfrz v y v' hown hv hy))
      · cases hu
  · refine ⟨?_, ?_, hR.inj, fun g => (hR.glob g).ext hE, hR'.keep, hR.tys⟩
    · intro c o hc
      unfold Imm.past at hc
      split at hc
      · exact hold c _ (hR.imm c o hc)
      · split at hc
        · rename_i x hx'
          cases hc
          exact hR'.imm c _ hx'
        · cases hy : w'.heap[c]? with
          | none => simp [hy] at hc
          | some y => simp [hy] at hc; subst hc; rfl
    · intro b x hbx
      obtain ⟨h1, h2, h3⟩ := hR.live b x hbx
      refine ⟨h1.ext hE (hlt _ h3) hsz ?_, ?_, by omega⟩
      · rintro m since seen rfl
        exact hlt _ h1.1.2.1
      · simp [Imm.past, h3, h2]
end Abs
end
noncomputable section
namespace Abs
set_option linter.unusedVariables false
set_option linter.unusedSimpArgs false
set_option linter.unusedSectionVars false
open Go

theorem part_skip {L : Nat → Bool} : ∀ (rs : List Ran) (a : AAct), (∀ r ∈ rs, L r.i = false) → part L rs a = a
  | [], _, _ => rfl
  | r :: rs, a, h => by
      rw [part, if_neg (by rw [h r (by simp)]; simp)]
      exact part_skip rs _ (fun r' hr' => h r' (by simp [hr']))

def withOne (L : Nat → Bool) (i : Nat) : Nat → Bool := fun k => L k || k == i

theorem withOne_self (L : Nat → Bool) (i : Nat) : withOne L i i = true := by simp [withOne]
theorem withOne_ne {L : Nat → Bool} {i k : Nat} (h : k ≠ i) : withOne L i k = L k := by simp [withOne, h]
theorem withOne_mono {L : Nat → Bool} {i k : Nat} (h : L k = true) : withOne L i k = true := by simp [withOne, h]

theorem Closed.withOne {ops : Array Oper} {L : Nat → Bool} (hL : Closed ops L) {i : Nat} (hi : ∀ on ∈ boundAt ops i, L on = true) : Closed ops (withOne L i) := by
  intro k hk on hon
  by_cases h : k = i
  · subst h; exact withOne_mono (hi on hon)
  · rw [withOne_ne h] at hk; exact withOne_mono (hL k hk on hon)

section
variable {E : Env} {ops : Array Oper} {canon : List Nat} {K : APred} {a0 : AAct}

structure DInv (E : Env) (ops : Array Oper) (canon : List Nat) (K : APred) (a0 : AAct) (L : Nat → Bool) (pre suf : List Nat) (vals : List Ran) (recs : List Rec) (σ : AStore) : Prop where
  split : canon = pre ++ suf
  idx : vals.map (·.i) = pre
  inpre : ∀ i, L i = true → i ∈ pre
  eff : ∀ i ∈ pre, effAt E ops i = true → L i = true
  closed : Closed ops L
  form : aDr E ops (ancs ops canon []) K (clearAll ops.toList a0) suf recs (part everyOne vals a0) σ
  ents : ∀ v1 r v2, vals = v1 ++ r :: v2 → ∃ o, ops[r.i]? = some o ∧ r.dst = o.dst ∧ (L r.i = false → isEff E o.op = false ∧
    ((∃ j want b, o.guard = some (j, want) ∧ aYield ops (part everyOne v1 a0) j = some b ∧ b ≠ some want ∧ r.x = some undefA) ∨
     ((o.guard = none ∨ ∃ j b, o.guard = some (j, b) ∧ aYield ops (part everyOne v1 a0) j = some (some b)) ∧
      ∃ v, r.x = some v ∧ (⟨r.i, o.op, part everyOne v1 a0, v⟩ : Rec) ∈ recs ∧ aRead E o.op ((part everyOne v1 a0).ev E.G) σ = some v)))

def Settled (E : Env) (ops : Array Oper) (suf : List Nat) : Prop := suf = [] ∨ ∃ e s, suf = e :: s ∧ effAt E ops e = true

structure DOk (E : Env) (ops : Array Oper) (canon : List Nat) : Prop where
  len : canon.length = ops.size
  all : ∀ i, i < ops.size → i ∈ canon
  top : ∀ p i q, canon = p ++ i :: q → (∀ on ∈ boundAt ops i, on ∈ p) ∧ i ∉ p ∧ i < ops.size
  pairs : ∀ p i q j r, canon = p ++ i :: q ++ j :: r → (effAt E ops i = true ∨ clashAt ops i j = true) → (look (ancs ops canon []) j).testBit i = true

theorem DOk.of (h : drawOk E ops canon = true) : DOk E ops canon := by
  simp only [drawOk, Bool.and_eq_true, List.all_eq_true] at h
  obtain ⟨⟨⟨h0, h1⟩, h2⟩, h3⟩ := h
  refine ⟨Nat.eq_of_beq_eq_true h0, fun i hi => by simpa using h1 i (by simpa using hi), ?_, chkPairs_spec h3⟩
  intro p i q hc
  obtain ⟨g1, g2, g3, g4⟩ := chkTop_spec h2 p i q hc
  exact ⟨fun on hon => (g1 on hon).resolve_left (by simp), g3, g4⟩

theorem DOk.nodup (h : DOk E ops canon) {p : List Nat} {i : Nat} {q : List Nat} (hc : canon = p ++ i :: q) : i ∉ p ∧ i ∉ q := by
  refine ⟨(h.top p i q hc).2.1, ?_⟩
  intro hi
  obtain ⟨q1, q2, rfl⟩ := List.append_of_mem hi
  exact (h.top (p ++ i :: q1) i q2 (by simp [hc])).2.1 (by simp)

theorem DOk.anc (_h : DOk E ops canon) {L : Nat → Bool} (hL : Closed ops L) {i j : Nat} (hj : L j = true) (ht : (look (ancs ops canon []) j).testBit i = true) : L i = true :=
  ancs_spec hL canon [] (by intro j i _ h; simp [look] at h) j i hj ht

/-- On through the reads. -/
theorem DInv.advance (hok : DOk E ops canon) {L : Nat → Bool} {σ : AStore} : ∀ (suf pre : List Nat) (vals : List Ran) (recs : List Rec), DInv E ops canon K a0 L pre suf vals recs σ →
    ∃ pre' suf' vals' recs' add, DInv E ops canon K a0 L pre' suf' vals' recs' σ ∧ Settled E ops suf' ∧ vals' = vals ++ add ∧ ∀ r ∈ add, L r.i = false
  | [], pre, vals, recs, h => ⟨pre, [], vals, recs, [], h, .inl rfl, by simp, by simp⟩
  | i :: suf, pre, vals, recs, h => by
      by_cases he : effAt E ops i = true
      · exact ⟨pre, i :: suf, vals, recs, [], h, .inr ⟨i, suf, rfl, he⟩, by simp, by simp⟩
      · have hnd := hok.nodup h.split
        have hLi : L i = false := by
          cases hl : L i with
          | false => rfl
          | true => exact absurd (h.inpre i hl) hnd.1
        have hf := h.form
        have heb : effAt E ops i = false := by simpa using he
        simp only [aDr] at hf
        cases ho : ops[i]? with
        | none => rw [ho] at hf; exact hf.elim
        | some o =>
          rw [ho] at hf
          have hie : isEff E o.op = false := by simpa [effAt, ho] using heb
          simp only [hie] at hf
          -- the step with a given outcome
          have key : ∀ (x : Option AVal) (recs' : List Rec), (∀ r ∈ recs, r ∈ recs') →
              aDr E ops (ancs ops canon []) K (clearAll ops.toList a0) suf recs' ((part everyOne vals a0).put o.dst x) σ →
              ((∃ j want b, o.guard = some (j, want) ∧ aYield ops (part everyOne vals a0) j = some b ∧ b ≠ some want ∧ x = some undefA) ∨
               ((o.guard = none ∨ ∃ j b, o.guard = some (j, b) ∧ aYield ops (part everyOne vals a0) j = some (some b)) ∧
                ∃ v, x = some v ∧ (⟨i, o.op, part everyOne vals a0, v⟩ : Rec) ∈ recs' ∧ aRead E o.op ((part everyOne vals a0).ev E.G) σ = some v)) →
              ∃ pre' suf' vals' recs' add, DInv E ops canon K a0 L pre' suf' vals' recs' σ ∧ Settled E ops suf' ∧ vals' = vals ++ add ∧ ∀ r ∈ add, L r.i = false := by
            intro x recs' hsub hform hcase
            have hinv : DInv E ops canon K a0 L (pre ++ [i]) suf (vals ++ [⟨i, o.dst, x⟩]) recs' σ := by
              refine ⟨by simp [h.split], by simp [h.idx], fun k hk => by simp [h.inpre k hk], ?_, h.closed, ?_, ?_⟩
              · intro k hk hke
                simp at hk
                rcases hk with hk | rfl
                · exact h.eff k hk hke
                · rw [heb] at hke; cases hke
              · rw [part_append]
                exact hform
              · intro v1 r v2 hv
                by_cases hv2 : v2 = []
                · subst hv2
                  have := List.append_inj' hv (by simp)
                  obtain ⟨rfl, hr⟩ := this
                  simp at hr
                  subst hr
                  exact ⟨o, ho, rfl, fun _ => ⟨hie, hcase⟩⟩
                · obtain ⟨v2', z, rfl⟩ : ∃ v2' z, v2 = v2' ++ [z] := ⟨v2.dropLast, v2.getLast hv2, (List.dropLast_concat_getLast hv2).symm⟩
                  have hv' : vals ++ [⟨i, o.dst, x⟩] = (v1 ++ r :: v2') ++ [z] := by simpa using hv
                  have := List.append_inj' hv' (by simp)
                  obtain ⟨o', q1, q2, q3⟩ := h.ents v1 r v2' this.1
                  refine ⟨o', q1, q2, fun hl => ?_⟩
                  obtain ⟨q4, q5⟩ := q3 hl
                  refine ⟨q4, ?_⟩
                  rcases q5 with q5 | ⟨q5, v, q6, q7, q8⟩
                  · exact .inl q5
                  · exact .inr ⟨q5, v, q6, hsub _ q7, q8⟩
            obtain ⟨pre', suf', vals', recs'', add, g1, g2, g3, g4⟩ := DInv.advance hok suf _ _ _ hinv
            refine ⟨pre', suf', vals', recs'', ⟨i, o.dst, x⟩ :: add, g1, g2, by rw [g3]; simp, ?_⟩
            intro r hr
            simp at hr
            rcases hr with rfl | hr
            · exact hLi
            · exact g4 r hr
          have read : (match aRead E o.op ((part everyOne vals a0).ev E.G) σ with
              | some v => aDr E ops (ancs ops canon []) K (clearAll ops.toList a0) suf (⟨i, o.op, part everyOne vals a0, v⟩ :: recs) ((part everyOne vals a0).put o.dst (some v)) σ
              | none => False) → (o.guard = none ∨ ∃ j b, o.guard = some (j, b) ∧ aYield ops (part everyOne vals a0) j = some (some b)) →
              ∃ pre' suf' vals' recs' add, DInv E ops canon K a0 L pre' suf' vals' recs' σ ∧ Settled E ops suf' ∧ vals' = vals ++ add ∧ ∀ r ∈ add, L r.i = false := by
            intro hr hg
            split at hr
            · rename_i v hv
              exact key (some v) _ (fun r hr => by simp [hr]) hr (.inr ⟨hg, v, rfl, by simp, hv⟩)
            · exact hr.elim
          split at hf
          · rename_i hg
            exact read hf (.inl hg)
          · rename_i j want hg
            split at hf
            · exact hf.elim
            · rename_i b hy
              by_cases hb : b = some want
              · exact read (hf.1 hb) (.inr ⟨j, want, hg, by rw [hy, hb]⟩)
              · exact key (some undefA) recs (fun r hr => hr) (hf.2 hb) (.inl ⟨j, want, b, hg, hy, hb, rfl⟩)

/-- What an operation reads is the same. -/
theorem reads_same (hok : DOk E ops canon) (hfit : ∀ (i : Nat) (o : Oper), ops[i]? = some o → a0.fits o.dst = true) {L : Nat → Bool} {vals : List Ran} (hents : ∀ r ∈ vals, ∃ o, ops[r.i]? = some o ∧ r.dst = o.dst) {i : Nat} {o : Oper} (ho : ops[i]? = some o) (hLi : L i = false)
    (hL : Closed ops L) (hb : ∀ on ∈ boundAt ops i, L on = true) {rs1 rest : List Ran} (hv : vals = rs1 ++ rest) {suf' : List Nat}
    (hc : canon = rs1.map (·.i) ++ i :: suf') (hrest : rest = [] ∨ ∃ r v2 q, rest = r :: v2 ∧ r.i = i ∧ suf' = v2.map (·.i) ++ q) :
    ∀ t ∈ readsOf ops o, (part L vals a0).tmps.get t = (part everyOne rs1 a0).tmps.get t := by
  intro t ht
  have hf1 : ∀ r ∈ vals, a0.fits r.dst = true := by
    intro r hr
    obtain ⟨o', h1, h2⟩ := hents r hr
    rw [h2]; exact hfit _ _ h1
  rw [part_get _ _ _ _ hf1, part_get _ _ _ _ (fun r hr => hf1 r (by rw [hv]; simp [hr]))]
  congr 1
  have hL' := hL.withOne hb
  have h1 : ∀ r ∈ rs1, r.dst = some t → L r.i = true := by
    intro r hr hd
    obtain ⟨o', q1, q2⟩ := hents r (by rw [hv]; simp [hr])
    have hcl : clashAt ops r.i i = true := by
      simp only [clashAt, q1, ho, clash]
      rw [← q2, hd]
      simp [ht]
    obtain ⟨p1, p2, hp⟩ := List.append_of_mem hr
    have hci : canon = p1.map (·.i) ++ r.i :: p2.map (·.i) ++ i :: suf' := by rw [hc, hp]; simp
    have hb' := hok.pairs _ _ _ _ _ hci (.inr hcl)
    have := hok.anc hL' (withOne_self L i) hb'
    have hne : r.i ≠ i := by
      intro he
      have := (hok.nodup (p := rs1.map (·.i)) (i := i) (q := suf') hc).1
      exact this (List.mem_map.2 ⟨r, hr, he⟩)
    rwa [withOne_ne hne] at this
  have h2 : ∀ r ∈ rest, r.dst = some t → L r.i = false := by
    intro r hr hd
    rcases hrest with rfl | ⟨r0, v2, q, rfl, hr0, rfl⟩
    · simp at hr
    · simp at hr
      rcases hr with rfl | hr
      · rw [hr0]; exact hLi
      · obtain ⟨o', q1, q2⟩ := hents r (by rw [hv]; simp [hr])
        have hcl : clashAt ops i r.i = true := by
          simp only [clashAt, q1, ho, clash]
          rw [← q2, hd]
          simp [ht]
        obtain ⟨p1, p2, hp⟩ := List.append_of_mem hr
        have hci : canon = rs1.map (·.i) ++ i :: p1.map (·.i) ++ r.i :: (p2.map (·.i) ++ q) := by rw [hc, hp]; simp
        have hb' := hok.pairs _ _ _ _ _ hci (.inr hcl)
        cases hl : L r.i with
        | false => rfl
        | true => have := hok.anc hL hl hb'; rw [hLi] at this; cases this
  rw [hv, lastW_append, lastW_none h2, lastW_all h1]
  simp

/-- One more is known. -/
theorem part_withOne (hok : DOk E ops canon) (hfit : ∀ (i : Nat) (o : Oper), ops[i]? = some o → a0.fits o.dst = true) {L : Nat → Bool} {vals : List Ran} (hents : ∀ r ∈ vals, ∃ o, ops[r.i]? = some o ∧ r.dst = o.dst) {i : Nat} (hLi : L i = false)
    (hL : Closed ops L) {v1 v2 : List Ran} {r : Ran} (hri : r.i = i) (hv : vals = v1 ++ r :: v2) {q : List Nat} (hc : canon = vals.map (·.i) ++ q) :
    (part (withOne L i) vals a0).Le ((part L vals a0).put r.dst r.x) := by
  have hf1 : ∀ r ∈ vals, a0.fits r.dst = true := by
    intro r hr
    obtain ⟨o', h1, h2⟩ := hents r hr
    rw [h2]; exact hfit _ _ h1
  obtain ⟨n1, n2⟩ := part_n (withOne L i) vals a0
  obtain ⟨n3, n4⟩ := part_n L vals a0
  obtain ⟨n5, n6⟩ := (part L vals a0).put_n r.dst r.x
  refine ⟨by rw [n1, n5, n3], by rw [n2, n6, n4], ?_⟩
  intro t v ht
  rw [AAct.put_get (by rw [AAct.fits_n n3]; exact hf1 r (by rw [hv]; simp))]
  rw [part_get _ _ _ _ hf1] at ht
  have hcr : canon = v1.map (·.i) ++ i :: (v2.map (·.i) ++ q) := by rw [hc, hv]; simp [hri]
  have hnd := hok.nodup hcr
  by_cases hd : r.dst = some t
  · rw [if_pos hd]
    have h2 : ∀ r' ∈ v2, r'.dst = some t → withOne L i r'.i = false := by
      intro r' hr' hd'
      obtain ⟨o', q1, q2⟩ := hents r' (by rw [hv]; simp [hr'])
      obtain ⟨o, q3, q4⟩ := hents r (by rw [hv]; simp)
      rw [hri] at q3
      have hcl : clashAt ops i r'.i = true := by
        simp only [clashAt, q1, q3, clash]
        rw [← q2, ← q4, hd, hd']
        simp
      obtain ⟨p1, p2, hp⟩ := List.append_of_mem hr'
      have hci : canon = v1.map (·.i) ++ i :: p1.map (·.i) ++ r'.i :: (p2.map (·.i) ++ q) := by rw [hcr, hp]; simp
      have hb' := hok.pairs _ _ _ _ _ hci (.inr hcl)
      have hne : r'.i ≠ i := by
        intro he
        exact hnd.2 (by simp; exact .inl ⟨r', hr', he⟩)
      rw [withOne_ne hne]
      cases hl : L r'.i with
      | false => rfl
      | true => have := hok.anc hL hl hb'; rw [hLi] at this; cases this
    rw [hv, lastW_append, lastW, lastW_none h2] at ht
    simp only [] at ht
    rw [if_pos ⟨by rw [hri]; exact withOne_self L i, hd⟩] at ht
    simpa using ht
  · rw [if_neg hd, part_get _ _ _ _ hf1]
    rw [← ht]
    congr 1
    refine lastW_congr ?_
    intro r' hr' hd'
    rw [hv] at hr'
    simp at hr'
    rcases hr' with hr' | rfl | hr'
    · have : r'.i ≠ i := fun he => hnd.1 (List.mem_map.2 ⟨r', hr', he⟩)
      rw [withOne_ne this]
    · exact absurd hd' hd
    · have : r'.i ≠ i := fun he => hnd.2 (by simp; exact .inl ⟨r', hr', he⟩)
      rw [withOne_ne this]
end
end Abs
end
noncomputable section
namespace Abs
set_option linter.unusedVariables false
set_option linter.unusedSimpArgs false
set_option linter.unusedSectionVars false
open Go

section
variable {E : Env} {ops : Array Oper} {canon : List Nat} {K : APred} {a0 : AAct}

theorem clearAll_le : ∀ (os : List Oper) (a : AAct), (∀ o ∈ os, a.fits o.dst = true) → (clearAll os a).n = a.n ∧ (clearAll os a).defers = a.defers ∧
    ∀ t v, (clearAll os a).tmps.get t = some v → a.tmps.get t = some v ∧ ∀ o ∈ os, o.dst ≠ some t
  | [], a, _ => ⟨rfl, rfl, fun t v h => ⟨h, by simp⟩⟩
  | o :: os, a, hf => by
      obtain ⟨n1, n2⟩ := a.put_n o.dst none
      obtain ⟨h1, h2, h3⟩ := clearAll_le os (a.put o.dst none) (fun o' ho' => by rw [AAct.fits_n n1]; exact hf o' (by simp [ho']))
      refine ⟨h1.trans n1, h2.trans n2, fun t v ht => ?_⟩
      obtain ⟨g1, g2⟩ := h3 t v ht
      rw [AAct.put_get (hf o (by simp))] at g1
      split at g1
      · cases g1
      · rename_i hne
        exact ⟨g1, fun o' ho' => by
          simp at ho'
          rcases ho' with rfl | ho'
          · exact hne
          · exact g2 o' ho'⟩

theorem ready_spec {listed : Array Bool} {L : Nat → Bool} (hl : ∀ i, i < ops.size → listed.getD i true = L i) (hs : listed.size = ops.size) {i : Nat} :
    i ∈ Region.ready .any ops listed ↔ i < ops.size ∧ L i = false ∧ ∀ on ∈ boundAt ops i, on < ops.size ∧ L on = true := by
  unfold Region.ready
  rw [List.mem_filter, List.mem_range]
  constructor
  · rintro ⟨h1, h2⟩
    simp only [Bool.and_eq_true, Bool.not_eq_true'] at h2
    obtain ⟨h2, h3⟩ := h2
    refine ⟨h1, by rw [← hl i h1]; exact h2, ?_⟩
    intro on hon
    have ho : ops[i]? = some ops[i] := Array.getElem?_eq_getElem h1
    rw [ho] at h3
    simp only [Option.map_some, Option.getD_some] at h3
    simp only [boundAt, ho, bound, List.mem_map, List.mem_filter] at hon
    obtain ⟨e, ⟨he1, he2⟩, rfl⟩ := hon
    rw [Array.all_eq_true_iff_forall_mem] at h3
    have := h3 e (by simpa using he1)
    rw [he2] at this
    simp only [Bool.not_true, Bool.false_or] at this
    have hlt : e.on < ops.size := by
      rcases Nat.lt_or_ge e.on ops.size with h | h
      · exact h
      · rw [Array.getD_eq_getD_getElem?, Array.getElem?_eq_none (by omega)] at this; simp at this
    refine ⟨hlt, ?_⟩
    rw [← hl _ hlt, ← this, Array.getD_eq_getD_getElem?, Array.getD_eq_getD_getElem?, Array.getElem?_eq_getElem (by omega)]
    rfl
  · rintro ⟨h1, h2, h3⟩
    refine ⟨h1, ?_⟩
    have ho : ops[i]? = some ops[i] := Array.getElem?_eq_getElem h1
    simp only [hl i h1, h2, Bool.not_false, Bool.true_and, ho, Option.map_some, Option.getD_some]
    rw [Array.all_eq_true_iff_forall_mem]
    intro e he
    by_cases hb : Region.binds .any e = true
    · have hon : e.on ∈ boundAt ops i := by
        simp only [boundAt, ho, bound, List.mem_map, List.mem_filter]
        exact ⟨e, ⟨by simpa using he, hb⟩, rfl⟩
      obtain ⟨g1, g2⟩ := h3 _ hon
      have := hl _ g1
      rw [g2, Array.getD_eq_getD_getElem?, Array.getElem?_eq_getElem (by omega)] at this
      simp only [hb, Bool.not_true, Bool.false_or]
      rw [Array.getD_eq_getD_getElem?, Array.getElem?_eq_getElem (by omega)]
      exact this
    · simp [hb]

theorem first_open {L : Nat → Bool} : ∀ (l : List Nat), (∃ i ∈ l, L i = false) → ∃ p i q, l = p ++ i :: q ∧ L i = false ∧ ∀ x ∈ p, L x = true
  | [], h => by simp at h
  | x :: l, h => by
      cases hx : L x with
      | false => exact ⟨[], x, l, rfl, hx, by simp⟩
      | true =>
        obtain ⟨i, hi, hLi⟩ := h
        simp at hi
        rcases hi with rfl | hi
        · rw [hx] at hLi; cases hLi
        · obtain ⟨p, j, q, h1, h2, h3⟩ := first_open l ⟨i, hi, hLi⟩
          refine ⟨x :: p, j, q, by rw [h1]; rfl, h2, ?_⟩
          intro y hy
          simp at hy
          rcases hy with rfl | hy
          · exact hx
          · exact h3 y hy

theorem filter_withOne {L : Nat → Bool} {i : Nat} (hi : L i = false) : ∀ (l : List Nat), i ∈ l → (l.filter fun k => !(withOne L i k)).length < (l.filter fun k => !(L k)).length := by
  have le : ∀ l : List Nat, (l.filter fun k => !(withOne L i k)).length ≤ (l.filter fun k => !(L k)).length := by
    intro l
    induction l with
    | nil => simp
    | cons x l ih =>
      simp only [List.filter_cons]
      by_cases hx : x = i
      · subst hx
        simp [withOne_self, hi]; omega
      · rw [withOne_ne hx]
        cases L x <;> simp <;> omega
  intro l
  induction l with
  | nil => intro h; simp at h
  | cons x l ih =>
    intro h
    simp only [List.filter_cons]
    by_cases hx : x = i
    · subst hx
      have := le l
      simp [withOne_self, hi]; omega
    · simp at h
      have := ih (h.resolve_left (fun e => hx e.symm))
      rw [withOne_ne hx]
      cases L x <;> simp <;> omega

theorem clearAll_part (hfit : ∀ (i : Nat) (o : Oper), ops[i]? = some o → a0.fits o.dst = true) {L : Nat → Bool} {vals : List Ran} (hents : ∀ r ∈ vals, ∃ o, ops[r.i]? = some o ∧ r.dst = o.dst) :
    (clearAll ops.toList a0).Le (part L vals a0) := by
  have hf0 : ∀ o ∈ ops.toList, a0.fits o.dst = true := by
    intro o ho
    obtain ⟨k, hk, rfl⟩ := List.mem_iff_getElem.1 ho
    exact hfit k _ (by simp at hk; simp [hk])
  have hf1 : ∀ r ∈ vals, a0.fits r.dst = true := by
    intro r hr
    obtain ⟨o', h1, h2⟩ := hents r hr
    rw [h2]; exact hfit _ _ h1
  obtain ⟨h1, h2, h3⟩ := clearAll_le ops.toList a0 hf0
  obtain ⟨n1, n2⟩ := part_n L vals a0
  refine ⟨by rw [h1, n1], by rw [h2, n2], fun t v ht => ?_⟩
  obtain ⟨g1, g2⟩ := h3 t v ht
  rw [part_get _ _ _ _ hf1, lastW_none]
  · exact g1
  · intro r hr hd
    obtain ⟨o', q1, q2⟩ := hents r hr
    exact absurd (q2.symm.trans hd) (g2 o' (by
      have := Array.mem_of_getElem? q1
      simpa using this))

theorem ev_same {a b : AAct} {o : Oper} {G : Nat → AVal} (h : ∀ t ∈ readsOf ops o, a.tmps.get t = b.tmps.get t) : ∀ x ∈ o.op.operands.toList, a.ev G x = b.ev G x := by
  intro x hx
  cases x with
  | tmp t => exact h t (by simp only [readsOf, List.mem_append, List.mem_filterMap]; exact .inl ⟨_, hx, rfl⟩)
  | _ => rfl

theorem yield_same {a b : AAct} {o : Oper} {j : Nat} {want : Bool} (hg : o.guard = some (j, want)) (h : ∀ t ∈ readsOf ops o, a.tmps.get t = b.tmps.get t) : aYield ops a j = aYield ops b j := by
  unfold aYield
  cases hd : (ops[j]?).bind (·.dst) with
  | none => rfl
  | some t =>
    simp only []
    rw [h t (by simp only [readsOf, guardTmp, hg, hd, List.mem_append]; exact .inr (by simp))]

theorem DInv.ents' {L : Nat → Bool} {pre suf : List Nat} {vals : List Ran} {recs : List Rec} {σ : AStore} (h : DInv E ops canon K a0 L pre suf vals recs σ) : ∀ r ∈ vals, ∃ o, ops[r.i]? = some o ∧ r.dst = o.dst := by
  intro r hr
  obtain ⟨v1, v2, hv⟩ := List.append_of_mem hr
  obtain ⟨o, h1, h2, _⟩ := h.ents v1 r v2 hv
  exact ⟨o, h1, h2⟩

theorem draw_fin (hok : DOk E ops canon) {n0 : Nat} {ι0 : Inj} {H0 : Imm} {L : Nat → Bool} {pre suf : List Nat} {vals : List Ran} {recs : List Rec} {σ : AStore} {ι : Inj} {H : Imm} {w : World} {ac : Act}
    (hinv : DInv E ops canon K a0 L pre suf vals recs σ) (hset : Settled E ops suf) (hR : Rel E ι H σ w) (ha : ActRel σ.next ι H (part L vals a0) ac) (he : Ext n0 ι0 H0 σ.next ι H)
    (hall : ∀ i ∈ canon, L i = true) : APost E n0 ι0 H0 K .normal ac w := by
  have hs : suf = [] := by
    rcases hset with h | ⟨e, s, h, _⟩
    · exact h
    · subst h
      have := hinv.inpre e (hall e (by rw [hinv.split]; simp))
      exact absurd this (hok.nodup hinv.split).1
  subst hs
  have hp : part L vals a0 = part everyOne vals a0 := part_eq vals a0 (fun r hr => hall _ (by
    rw [hinv.split, ← hinv.idx]; simp; exact ⟨r, hr, rfl⟩))
  rw [hp] at ha
  exact ⟨ι, H, σ, _, .normal, hinv.form, .normal, ha, hR, he⟩

theorem draw_all (hok : DOk E ops canon) {L : Nat → Bool} {listed : Array Bool} (hsz : listed.size = ops.size) (hl : ∀ i, i < ops.size → listed.getD i true = L i)
    (hr : Region.ready .any ops listed = []) : ∀ i ∈ canon, L i = true := by
  intro i hi
  cases hL : L i with
  | true => rfl
  | false =>
    obtain ⟨p, j, q, h1, h2, h3⟩ := first_open canon ⟨i, hi, hL⟩
    obtain ⟨g1, g2, g3⟩ := hok.top p j q h1
    have : j ∈ Region.ready .any ops listed := (ready_spec hl hsz).2 ⟨g3, h2, fun on hon => by
      have hp := g1 on hon
      obtain ⟨p1, p2, rfl⟩ := List.append_of_mem hp
      exact ⟨(hok.top p1 on (p2 ++ j :: q) (by rw [h1]; simp)).2.2, h3 on hp⟩⟩
    rw [hr] at this
    simp at this

theorem draw_main (ιr : Inj) (hok : DOk E ops canon) (hfit : ∀ (i : Nat) (o : Oper), ops[i]? = some o → a0.fits o.dst = true) {n0 : Nat} {ι0 : Inj} {H0 : Imm} : ∀ (fuel : Nat) (L : Nat → Bool) (listed : Array Bool) (pre suf : List Nat) (vals : List Ran) (recs : List Rec)
    (σ : AStore) (ι : Inj) (H : Imm) (w : World) (ac : Act), listed.size = ops.size → (∀ i, i < ops.size → listed.getD i true = L i) → (canon.filter fun i => !(L i)).length ≤ fuel →
    DInv E ops canon K a0 L pre suf vals recs σ → Settled E ops suf → Rel E ι H σ w → ActRel σ.next ι H (part L vals a0) ac → Ext n0 ι0 H0 σ.next ι H →
    wpAnyIn (FR ιr E.rd) 0 E.P .any ops (APost E n0 ι0 H0 K) fuel listed ac w := by
  intro fuel
  induction fuel with
  | zero =>
    intro L listed pre suf vals recs σ ι H w ac hsz hl hcnt hinv hset hR ha he
    have hall : ∀ i ∈ canon, L i = true := by
      intro i hi
      cases hL : L i with
      | true => rfl
      | false =>
        have : i ∈ canon.filter (fun i => !(L i)) := List.mem_filter.2 ⟨hi, by simp [hL]⟩
        have h0 : canon.filter (fun i => !(L i)) = [] := List.length_eq_zero_iff.1 (by omega)
        rw [h0] at this; simp at this
    refine ⟨?_, draw_fin hok hinv hset hR ha he hall⟩
    cases hr : Region.ready .any ops listed with
    | nil => rfl
    | cons i l =>
      have : i ∈ Region.ready .any ops listed := by rw [hr]; simp
      obtain ⟨h1, h2, _⟩ := (ready_spec hl hsz).1 this
      rw [hall i (hok.all i h1)] at h2; cases h2
  | succ fuel ih =>
    intro L listed pre suf vals recs σ ι H w ac hsz hl hcnt hinv hset hR ha he
    refine ⟨fun hr => draw_fin hok hinv hset hR ha he (draw_all hok hsz hl hr), ?_⟩
    intro i hi
    obtain ⟨h1, h2, h3⟩ := (ready_spec hl hsz).1 hi
    have hb : ∀ on ∈ boundAt ops i, L on = true := fun on hon => (h3 on hon).2
    have hic := hok.all i h1
    have hL' := hinv.closed.withOne hb
    have hents := hinv.ents'
    have hsz' : (listed.setIfInBounds i true).size = ops.size := by simpa using hsz
    have hl' : ∀ k, k < ops.size → (listed.setIfInBounds i true).getD k true = withOne L i k := by
      intro k hk
      by_cases hki : k = i
      · subst hki
        rw [withOne_self, Array.getD_eq_getD_getElem?]
        simp [hsz, hk]
      · rw [withOne_ne hki, ← hl k hk, Array.getD_eq_getD_getElem?, Array.getD_eq_getD_getElem?]
        simp [Ne.symm hki]
    have hcnt' : (canon.filter fun k => !(withOne L i k)).length ≤ fuel := by
      have := filter_withOne h2 canon hic
      omega
    -- the rest, from a state that is known
    have next : ∀ (pre suf : List Nat) (vals : List Ran) (recs : List Rec) (σ : AStore) (ι : Inj) (H : Imm) (w : World) (ac : Act), DInv E ops canon K a0 (withOne L i) pre suf vals recs σ →
        Rel E ι H σ w → ActRel σ.next ι H (part (withOne L i) vals a0) ac → Ext n0 ι0 H0 σ.next ι H → wpAnyIn (FR ιr E.rd) 0 E.P .any ops (APost E n0 ι0 H0 K) fuel (listed.setIfInBounds i true) ac w := by
      intro pre suf vals recs σ ι H w ac hinv hR ha he
      obtain ⟨pre', suf', vals', recs', add, g1, g2, g3, g4⟩ := DInv.advance hok _ _ _ _ hinv
      have ha' : ActRel σ.next ι H (part (withOne L i) vals' a0) ac := by
        rw [g3, part_append, part_skip add _ g4]; exact ha
      exact ih _ _ _ _ _ _ _ _ _ _ _ hsz' hl' hcnt' g1 g2 hR ha' he
    have ho : ops[i]? = some ops[i] := Array.getElem?_eq_getElem h1
    generalize hoo : ops[i] = o at ho
    unfold wpOpIn
    simp only [ho]
    rw [hinv.split, List.mem_append] at hic
    by_cases hip : i ∈ pre
    · -- a read that is made late
      have hip' := hip
      rw [← hinv.idx, List.mem_map] at hip'
      obtain ⟨r, hr, hri⟩ := hip'
      obtain ⟨v1, v2, hv⟩ := List.append_of_mem hr
      obtain ⟨o', q1, q2, q3⟩ := hinv.ents v1 r v2 hv
      rw [hri, ho] at q1
      cases q1
      obtain ⟨q4, q5⟩ := q3 (by rw [hri]; exact h2)
      have hcv : canon = v1.map (·.i) ++ i :: (v2.map (·.i) ++ suf) := by rw [hinv.split, ← hinv.idx, hv]; simp [hri]
      have same := reads_same hok hfit hents ho h2 hinv.closed hb hv hcv (.inr ⟨r, v2, suf, rfl, hri, rfl⟩)
      have hle := part_withOne hok hfit hents h2 hinv.closed hri hv (q := suf) (by rw [hinv.idx]; exact hinv.split)
      have hfo : (part L vals a0).fits o.dst = true := by rw [AAct.fits_n (part_n L vals a0).1]; exact hfit i o ho
      have hinv' : DInv E ops canon K a0 (withOne L i) pre suf vals recs σ := by
        refine ⟨hinv.split, hinv.idx, ?_, fun k hk hke => withOne_mono (hinv.eff k hk hke), hL', hinv.form, ?_⟩
        · intro k hk
          by_cases hki : k = i
          · rw [hki]; exact hip
          · rw [withOne_ne hki] at hk; exact hinv.inpre k hk
        · intro u1 r' u2 hu
          obtain ⟨o', p1, p2, p3⟩ := hinv.ents u1 r' u2 hu
          refine ⟨o', p1, p2, fun hl => p3 ?_⟩
          cases hll : L r'.i with
          | false => rfl
          | true => rw [withOne_mono hll] at hl; cases hl
      rcases q5 with ⟨j, want, b, hg, hy, hbw, hx⟩ | ⟨hw, v, hx, hrec, hread⟩
      · -- it is left out
        rw [← yield_same hg same] at hy
        have hy' := aYield_sound ha hy
        have hnw : ¬ Region.wanted o (yielded ops ac.tmps) = true := by simp [Region.wanted, hg, hy', hbw]
        rw [if_neg hnw]
        refine ⟨fun _ _ => trivial, ?_⟩
        have ha' := (ha.put hfo undefA_rel).le (a := part (withOne L i) vals a0) (by rw [q2, hx] at hle; exact hle)
        exact next pre suf vals recs σ ι H w _ hinv' hR ha' he
      · have hwant : Region.wanted o (yielded ops ac.tmps) = true := by
          rcases hw with hg | ⟨j, b, hg, hy⟩
          · simp [Region.wanted, hg]
          · rw [← yield_same hg same] at hy
            have hy' := aYield_sound ha hy
            simp [Region.wanted, hg, hy']
        rw [if_pos hwant]
        have hop := aRead_some q4 hread
        rw [← aOp_congr E true o.op σ (ev_same (ops := ops) (G := E.G) same)] at hop
        have hs := aOp_sound hR (ha.rho hR) true o
        rw [hop] at hs
        obtain ⟨v', w', ι', H', hrun, hvr, hR', he'⟩ := hs
        refine ⟨fun _ _ => trivial, ?_⟩
        rw [semAt_run (E := E) (σ := σ) (lit := true) (ρ := (part L vals a0).ev E.G) (.inl ⟨by rw [hop]; simp, by rw [hop]; simp⟩), hrun]
        have ha' := ((ha.ext he').put hfo hvr).le (a := part (withOne L i) vals a0) (by rw [q2, hx] at hle; exact hle)
        exact next pre suf vals recs σ ι' H' w' _ hinv' hR' ha' (he.trans he')
    · -- what may turn the store
      have his := hic.resolve_left hip
      obtain ⟨e, s, hse, hee⟩ : ∃ e s, suf = e :: s ∧ effAt E ops e = true := by
        rcases hset with h | h
        · rw [h] at his; simp at his
        · exact h
      subst hse
      have hie : i = e := by
        simp at his
        rcases his with h | h
        · exact h
        · obtain ⟨s1, s2, rfl⟩ := List.append_of_mem h
          have hbit := hok.pairs pre e s1 i s2 (by rw [hinv.split]; simp) (.inl hee)
          have := hok.anc hL' (withOne_self L i) hbit
          have hne : e ≠ i := by
            intro hh
            exact (hok.nodup hinv.split).2 (by rw [hh]; simp)
          rw [withOne_ne hne] at this
          exact absurd (hinv.inpre e this) (hok.nodup hinv.split).1
      subst hie
      have heff : isEff E o.op = true := by simpa [effAt, ho] using hee
      have same := reads_same hok hfit hents ho h2 hinv.closed hb (rs1 := vals) (rest := []) (by simp) (suf' := s) (by rw [hinv.idx]; exact hinv.split) (.inl rfl)
      have hfo : (part L vals a0).fits o.dst = true := by rw [AAct.fits_n (part_n L vals a0).1]; exact hfit i o ho
      have hform := hinv.form
      simp only [aDr, ho, heff] at hform
      -- one more in the row
      have hvi : vals.map (·.i) = pre := hinv.idx
      have step : ∀ (x : Option AVal) (σ' : AStore) (ι' : Inj) (H' : Imm) (w' : World) (ac' : Act), (σ' = σ ∨ ∀ r ∈ recs, (look (ancs ops canon []) i).testBit r.i = true ∨ r.holds E σ') →
          aDr E ops (ancs ops canon []) K (clearAll ops.toList a0) s recs ((part everyOne vals a0).put o.dst x) σ' → Rel E ι' H' σ' w' →
          ActRel σ'.next ι' H' ((part L vals a0).put o.dst x) ac' → Ext n0 ι0 H0 σ'.next ι' H' → wpAnyIn (FR ιr E.rd) 0 E.P .any ops (APost E n0 ι0 H0 K) fuel (listed.setIfInBounds i true) ac' w' := by
        intro x σ' ι' H' w' ac' hrecs hf hR' ha' he'
        have hpart : part (withOne L i) (vals ++ [⟨i, o.dst, x⟩]) a0 = (part L vals a0).put o.dst x := by
          rw [part_append]
          simp only [part, withOne_self, if_true]
          congr 1
          have : ∀ (rs : List Ran) (a : AAct), (∀ r ∈ rs, r.i ≠ i) → part (withOne L i) rs a = part L rs a := by
            intro rs
            induction rs with
            | nil => intro a _; rfl
            | cons r rs ih2 =>
              intro a h
              simp only [part]
              rw [withOne_ne (h r (by simp))]
              exact ih2 _ (fun r' hr' => h r' (by simp [hr']))
          refine this vals a0 ?_
          intro r hr hri
          exact hip (by rw [← hvi]; exact List.mem_map.2 ⟨r, hr, hri⟩)
        refine next (pre ++ [i]) s (vals ++ [⟨i, o.dst, x⟩]) recs σ' ι' H' w' ac' ?_ hR' (by rw [hpart]; exact ha') he'
        refine ⟨by simp [hinv.split], by simp [hvi], ?_, ?_, hL', by rw [part_append]; exact hf, ?_⟩
        · intro k hk
          by_cases hki : k = i
          · simp [hki]
          · rw [withOne_ne hki] at hk; simp [hinv.inpre k hk]
        · intro k hk hke
          simp at hk
          rcases hk with hk | rfl
          · exact withOne_mono (hinv.eff k hk hke)
          · exact withOne_self L k
        · intro u1 r u2 hu
          by_cases hu2 : u2 = []
          · subst hu2
            have := List.append_inj' hu (by simp)
            obtain ⟨rfl, hr⟩ := this
            simp at hr
            subst hr
            exact ⟨o, ho, rfl, fun hh => by rw [withOne_self] at hh; cases hh⟩
          · obtain ⟨u2', z, rfl⟩ : ∃ u2' z, u2 = u2' ++ [z] := ⟨u2.dropLast, u2.getLast hu2, (List.dropLast_concat_getLast hu2).symm⟩
            have hu' : vals ++ [⟨i, o.dst, x⟩] = (u1 ++ r :: u2') ++ [z] := by simpa using hu
            have := List.append_inj' hu' (by simp)
            obtain ⟨o', p1, p2, p3⟩ := hinv.ents u1 r u2' this.1
            refine ⟨o', p1, p2, fun hh => ?_⟩
            have hLr : L r.i = false := by
              cases hll : L r.i with
              | false => rfl
              | true => rw [withOne_mono hll] at hh; cases hh
            obtain ⟨p4, p5⟩ := p3 hLr
            refine ⟨p4, ?_⟩
            rcases p5 with p5 | ⟨p5, v, p6, p7, p8⟩
            · exact .inl p5
            · refine .inr ⟨p5, v, p6, p7, ?_⟩
              rcases hrecs with rfl | hrecs
              · exact p8
              rcases hrecs _ p7 with hb' | hh'
              · have := hok.anc hL' (withOne_self L i) hb'
                rw [this] at hh; cases hh
              · exact hh'
      have clear := clearAll_part hfit hents (L := L)
      have go : aGoD E K (clearAll ops.toList a0) (fun x σ' => recsOk E (look (ancs ops canon []) i) σ' recs ∧ aDr E ops (ancs ops canon []) K (clearAll ops.toList a0) s recs ((part everyOne vals a0).put o.dst x) σ') σ
          (aOp E true o.op ((part everyOne vals a0).ev E.G) σ) → Region.wanted o (yielded ops ac.tmps) = true →
          (if Region.wanted o (yielded ops ac.tmps) = true then o.wpIn (FR ιr E.rd) 0 E.P ac w (wpAnyIn (FR ιr E.rd) 0 E.P .any ops (APost E n0 ι0 H0 K) fuel (listed.setIfInBounds i true)) (APost E n0 ι0 H0 K)
            else (∀ f, o.about E.P w ac.eval = some f → (FR ιr E.rd).fn f) ∧ wpAnyIn (FR ιr E.rd) 0 E.P .any ops (APost E n0 ι0 H0 K) fuel (listed.setIfInBounds i true) (ac.put o.dst undef) w) := by
        intro hgo hwant
        rw [if_pos hwant]
        rw [← aOp_congr E true o.op σ (ev_same (ops := ops) (G := E.G) same)] at hgo
        have hs := aOp_sound hR (ha.rho hR) true o
        refine ⟨fun _ _ => trivial, ?_⟩
        have hsem : o.semAt (FR ιr E.rd).round ac.eval = execOp ac.eval o := by
          refine semAt_run (E := E) (σ := σ) (lit := true) (ρ := (part L vals a0).ev E.G) (.inl ⟨?_, ?_⟩)
          · intro d hd; rw [hd] at hgo; exact hgo
          · intro hd; rw [hd] at hgo; exact hgo
        rw [hsem]
        generalize aOp E true o.op ((part L vals a0).ev E.G) σ = res at hgo hs
        cases res with
        | val v σ' =>
          obtain ⟨v', w', ι', H', hrun, hvr, hR', he'⟩ := hs
          rw [hrun]
          exact step (some v) σ' ι' H' w' _ (.inr (recsOk_mem hgo.1)) hgo.2 hR' ((ha.ext he').put hfo hvr) (he.trans he')
        | vals l =>
          obtain ⟨p, hp, v', w', ι', H', hrun, hvr, hR', he'⟩ := hs
          rw [hrun]
          have := hgo p hp
          exact step (some p.1) p.2 ι' H' w' _ (.inr (recsOk_mem this.1)) this.2 hR' ((ha.ext he').put hfo hvr) (he.trans he')
        | skip σ' =>
          obtain ⟨w', hrun, hR', hn⟩ := hs
          rw [hrun]
          have he' : Ext σ.next ι H σ'.next ι H := ⟨by omega, fun _ _ => rfl, Imm.Le.refl _⟩
          exact step (some undefA) σ' ι H w' _ (.inr (recsOk_mem hgo.1)) hgo.2 hR' ((ha.ext he').put hfo undefA_rel) (he.trans he')
        | enter t args =>
         cases t with
         | yld b =>
          obtain ⟨args', hargs, st, pend, ps, as, bd, tm, nt, d, fn, tmps, y1, y2, y3, y4, y5, y6, hrun⟩ := hs
          rw [hrun]
          refine ⟨(fun hh => by cases hh), RoundIn.mono (ARound.sound hgo hR hargs y1 y2 y3 y4 y5 y6 ιr) ?_⟩
          rintro ex w1 ⟨ι1, H1, σ1, ae, hq, hx, hR1, he1⟩
          cases hx with
          | ret v v' hv => exact step (some v) σ1 ι1 H1 w1 _ (.inr (recsOk_mem hq.1)) hq.2 hR1 ((ha.ext he1).put hfo hv) (he.trans he1)
          | pan v v' hv => exact ⟨ι1, H1, σ1, _, _, hq, .pan v v' hv, (ha.ext he1).le clear, hR1, he.trans he1⟩
         | fn f =>
          obtain ⟨args', hrun, hargs⟩ := hs
          rw [hrun]
          refine ⟨(fun hh => by cases hh), callsIn_FR (Calls.mono (hgo ι H w args' hR hargs) ?_)⟩
          rintro ex w1 ⟨ι1, H1, σ1, ae, hq, hx, hR1, he1⟩
          cases hx with
          | ret v v' hv => exact step (some v) σ1 ι1 H1 w1 _ (.inr (recsOk_mem hq.1)) hq.2 hR1 ((ha.ext he1).put hfo hv) (he.trans he1)
          | pan v v' hv => exact ⟨ι1, H1, σ1, _, _, hq, .pan v v' hv, (ha.ext he1).le clear, hR1, he.trans he1⟩
        | pan v =>
          obtain ⟨v', hrun, hv⟩ := hs
          rw [hrun]
          exact ⟨ι, H, σ, _, _, hgo, .pan v v' hv, ha.le clear, hR, he⟩
        | dfr d => exact hgo.elim
        | recov => exact hgo.elim
        | bad => exact hgo.elim
      split at hform
      · rename_i hg
        exact go hform (by simp [Region.wanted, hg])
      · rename_i j want hg
        split at hform
        · exact hform.elim
        · rename_i b hy
          rw [← yield_same hg same] at hy
          have hy' := aYield_sound ha hy
          by_cases hbw : b = some want
          · exact go (hform.1 hbw) (by simp [Region.wanted, hg, hy', hbw])
          · have hnw : ¬ Region.wanted o (yielded ops ac.tmps) = true := by simp [Region.wanted, hg, hy', hbw]
            rw [if_neg hnw]
            refine ⟨fun _ _ => trivial, ?_⟩
            exact step (some undefA) σ ι H w _ (.inl rfl) (hform.2 hbw) hR (ha.put hfo undefA_rel) he

theorem AWp.region_draw {id : Nat} (hm : E.P.follows .mixedOrders = true) {σ : AStore} (h : aDrawn E ops canon K a0 σ) : AWp E (.region id ops true) K a0 σ := by
  obtain ⟨h1, h2, h3⟩ := h
  have hok := DOk.of h1
  have hfit : ∀ (i : Nat) (o : Oper), ops[i]? = some o → a0.fits o.dst = true := by
    intro i o ho
    simp only [fitsAll, List.all_eq_true] at h2
    have := Array.mem_of_getElem? ho
    exact h2 o (by simpa using this)
  intro ι H w ac hR ha _
  refine wpIn_region_any hm ?_
  have hR' : Rel E ι H σ { w with drawn := w.drawn + 1 } := hR.congr rfl ⟨rfl, rfl⟩
  have hinv : DInv E ops canon K a0 (fun _ => false) [] canon [] [] σ :=
    ⟨rfl, rfl, by simp, by simp, (fun i hi => by cases hi), h3, fun v1 r v2 hv => by simp at hv⟩
  obtain ⟨pre', suf', vals', recs', add, g1, g2, g3, g4⟩ := DInv.advance hok _ _ _ _ hinv
  refine draw_main ι hok hfit ops.size (fun _ => false) _ pre' suf' vals' recs' σ ι H _ ac (by simp) ?_ ?_ g1 g2 hR' ?_ (Ext.refl _ _ _)
  · intro i hi
    rw [Array.getD_eq_getD_getElem?]
    simp [hi]
  · rw [← hok.len]
    exact List.length_filter_le _ _
  · rw [g3]
    simp only [List.nil_append]
    rw [part_skip add _ g4]
    exact ha
end
end Abs
end
noncomputable section
namespace Abs
set_option linter.unusedVariables false
set_option linter.unusedSimpArgs false
set_option linter.unusedSectionVars false
open Go

/-! ### Loops by rounds, scopes, deferred calls -/

section
variable {E : Env}

theorem AAct.Le.refl (a : AAct) : a.Le a := ⟨rfl, rfl, fun _ _ h => h⟩

def AWpN (E : Env) (c : Code) (Q : APred) : Nat → AAct → AStore → Prop
  | 0, _, _ => False
  | n + 1, a, σ => AWp E c (AExit.then (AWpN E c Q n) Q) a σ

theorem AWp.loopN {c : Code} {Q : APred} {a : AAct} {σ : AStore} (n : Nat) (h : AWpN E c Q n a σ) : AWp E (.loop c) Q a σ := by
  refine AWp.loop (fun m a σ => AWpN E c Q m a σ) n h ?_
  intro m a σ hm
  cases m with
  | zero => exact hm.elim
  | succ m =>
    refine AWp.mono hm ?_
    intro e a σ hq
    cases e with
    | normal => exact ⟨a, m, AAct.Le.refl a, by omega, hq⟩
    | _ => exact hq

def AScN (E : Env) (body : Code) (Q : APred) : Nat → Code → AAct → AStore → Prop
  | 0, _, _, _ => False
  | n + 1, cur, a, σ => AWp E cur (fun e a σ =>
      match e with
      | .goto l => (match findLabel body l with
        | some rest => AScN E body Q n rest a σ
        | none => Q (.goto l) a σ)
      | e => Q e a σ) a σ

theorem stepR_scope {P : Program} {b : Frame} {a : Act} {k : List Item} {cs : List Frame} {w : World} {c : Code} : step P (lone (b.atR a (.code (.scope c) :: k)) cs w) = .next (lone (b.atR a (.code c :: .inScope c :: k)) cs w) :=
  step_lone_go (by simp [stepG, stepG.exec, Frame.atR])

theorem stepR_inScope {P : Program} {b : Frame} {a : Act} {k : List Item} {cs : List Frame} {w : World} {c : Code} : step P (lone (b.atR a (.inScope c :: k)) cs w) = .next (lone (b.atR a k) cs w) :=
  step_lone_go (by simp [stepG, stepG.exec, Frame.atR])

theorem AWp.scopeN {c : Code} {Q : APred} {a : AAct} {σ : AStore} (n : Nat) (h : AScN E c Q n c a σ) : AWp E (.scope c) Q a σ := by
  have key : ∀ (n : Nat) (cur : Code) (a : AAct) (σ : AStore), AScN E c Q n cur a σ → ∀ ι H w a', Rel E ι H σ w → ActRel σ.next ι H a a' → RdOk E.rd σ.next → ∀ (b : Frame) (k : List Item) (cs : List Frame),
      b.roundOf = (FR ι E.rd).round → ∃ e a1 w1, APost E σ.next ι H Q e a1 w1 ∧ ArrivesIn (Machine.fenced E.P (FR ι E.rd)) E.P (lone (b.atR a' (.code cur :: .inScope c :: k)) cs w) b k cs e a1 w1 := by
    intro n
    induction n with
    | zero => intro cur a σ h; exact h.elim
    | succ n ih =>
      intro cur a σ h ι H w a' hR ha hrd b k cs hro
      have room : (FR ι E.rd).room (cs.length + 1 + 0) := fun d hd => by cases hd
      obtain ⟨e, a1, w1, hq, harr⟩ := h ι H w a' hR ha hrd b (.inScope c :: k) cs hro trivial room
      obtain ⟨ι1, H1, σ1, a1', ae, hq, hx, ha1, hR1, he1⟩ := hq
      cases hx with
      | normal => exact ⟨.normal, a1, w1, ⟨ι1, H1, σ1, a1', _, hq, .normal, ha1, hR1, he1⟩, StepsIn.trans harr (.one (fenced_calm (n := 0) trivial room rfl) stepR_inScope)⟩
      | exit id => exact ⟨.exit id, a1, w1, ⟨ι1, H1, σ1, a1', _, hq, .exit id, ha1, hR1, he1⟩, fun k' hk => harr.1 k' (by simp [exitTo, hk]), fun hs hk => harr.2 hs (by simp [exitTo, hk])⟩
      | goto l =>
        simp only [] at hq
        cases hf : findLabel c l with
        | none =>
          rw [hf] at hq
          exact ⟨.goto l, a1, w1, ⟨ι1, H1, σ1, a1', _, hq, .goto l, ha1, hR1, he1⟩, fun k' hk => harr.1 k' (by simp [gotoIn, hf, hk]), fun hs hk => harr.2 hs (by simp [gotoIn, hf, hk])⟩
        | some rest =>
          rw [hf] at hq
          have hg : gotoIn l (.inScope c :: k) = some (.code rest :: .inScope c :: k) := by simp [gotoIn, hf]
          obtain ⟨e2, a2, w2, hq2, harr2⟩ := ih rest a1' σ1 hq ι1 H1 w1 a1 hR1 ha1 (hrd.ext he1) b k cs (by rw [FR_ext he1 hrd]; exact hro)
          rw [FR_ext he1 hrd] at harr2
          exact ⟨e2, a2, w2, APost.trans he1 hq2, .of_steps (harr.1 _ hg) harr2⟩
      | ret => exact ⟨.ret, a1, w1, ⟨ι1, H1, σ1, a1', _, hq, .ret, ha1, hR1, he1⟩, harr⟩
      | pan v v' hv => exact ⟨_, a1, w1, ⟨ι1, H1, σ1, a1', _, hq, .pan v v' hv, ha1, hR1, he1⟩, harr⟩
  intro ι H w a' hR ha hrd b k cs hro _ hroom
  obtain ⟨e, a1, w1, hq, harr⟩ := key n c a σ h ι H w a' hR ha hrd b k cs hro
  exact ⟨e, a1, w1, hq, .of_steps (.one (fenced_calm (n := 0) trivial hroom rfl) stepR_scope) harr⟩

/-- A deferred call. -/
def ACallsD (E : Env) (f : FuncId) (args : List AVal) (σ : AStore) (R : AEnd → AStore → Prop) : Prop :=
  ∀ ι H w (args' : List Value) (u : FrameMode), Rel E ι H σ w → LRel σ.next ι H args args' →
    CallsDIn Fence.wide 0 E.P f args'.toArray u w fun e u' w' => u' = u ∧ ∃ ι' H' σ' ae, R ae σ' ∧ EndRel σ'.next ι' H' ae e ∧ Rel E ι' H' σ' w' ∧ Ext σ.next ι H σ'.next ι' H'

theorem ACallsD.mono {f : FuncId} {args : List AVal} {σ : AStore} {R R' : AEnd → AStore → Prop} (h : ACallsD E f args σ R) (hr : ∀ e σ, R e σ → R' e σ) : ACallsD E f args σ R' :=
  fun ι H w args' u hR ha => CallsDIn.mono (h ι H w args' u hR ha) fun _ _ _ ⟨hu, ι', H', σ', ae, h1, h2⟩ => ⟨hu, ι', H', σ', ae, hr _ _ h1, h2⟩

theorem ACallsD.of_wp (hrd : E.rd = none) {f : FuncId} {fn : Func} {c : Code} {args : List AVal} {σ : AStore} {R : AEnd → AStore → Prop} (hf : E.P.funcs[f]? = some fn) (hb : fn.body = some c) (hn : args.length ≤ fn.ntmps) (hl : args.length < 1000)
    (h : AWp E c (aEnd E fn R) (aInit args fn.ntmps) σ) : ACallsD E f args σ R := by
  intro ι H w args' u hR hargs
  have ha := aInit_rel hargs hn hl
  refine callsDIn_of_wp hf hb trivial ?_
  have hw := h ι H w _ hR ha (fun b hb => by rw [hrd] at hb; cases hb)
  rw [hrd, FR_none] at hw
  refine wpIn_mono (by simpa using hw) ?_
  rintro e a1 w1 ⟨ι1, H1, σ1, a1', ae, hq, hx, ha1, hR1, he1⟩
  have fin : ∀ ae, aEnd E fn R ae a1' σ1 → (ae = .normal ∨ ae = .ret) → a1.defers = [] ∧ ∃ v, (results fn a1.tmps).run E.P w1 = .ok v w1 ∧
      ∃ ι' H' σ' ae, R ae σ' ∧ EndRel σ'.next ι' H' ae (.returned v) ∧ Rel E ι' H' σ' w1 ∧ Ext σ.next ι H σ'.next ι' H' := by
    intro ae hq hae
    have hq' : a1'.defers = [] ∧ ∃ v, aResult E fn.results.toList a1' σ1 = some v ∧ R (.ret v) σ1 := by rcases hae with rfl | rfl <;> exact hq
    obtain ⟨hd, v, hr, hRv⟩ := hq'
    have hd' := ha1.defers
    rw [hd] at hd'
    obtain ⟨v', r1, r2⟩ := aResult_sound hR1 ha1 hr
    exact ⟨hd'.nil_inv, v', r1, ι1, H1, σ1, .ret v, hRv, .ret v v' r2, hR1, he1⟩
  cases hx with
  | normal => exact fin _ hq (.inl rfl)
  | ret => exact fin _ hq (.inr rfl)
  | exit id => exact hq.elim
  | goto l => exact hq.elim
  | pan v v' hv =>
    obtain ⟨hd, hRv⟩ := hq
    have hd' := ha1.defers
    rw [hd] at hd'
    exact ⟨hd'.nil_inv, ι1, H1, σ1, .pan v, hRv, .pan v v' hv, hR1, he1⟩

inductive ModeRel (n : Nat) (ι : Inj) (H : Imm) : Option AVal → FrameMode → Prop
  | ret : ModeRel n ι H none .returning
  | pan (v : AVal) (w : Value) (h : VRel n ι H v w) : ModeRel n ι H (some v) (.panicking [{ v := w, recovered := false }])

theorem ModeRel.ext {n n' : Nat} {ι ι' : Inj} {H H' : Imm} (he : Ext n ι H n' ι' H') {m : Option AVal} {u : FrameMode} (h : ModeRel n ι H m u) : ModeRel n' ι' H' m u := by
  cases h with
  | ret => exact .ret
  | pan v w h => exact .pan v w (h.ext he)


/-- A deferred call, by what is under way below it: a panic, or none; 'R' tells what is under way behind it. -/
def ACallsM (E : Env) (f : FuncId) (args : List AVal) (m : Option AVal) (σ : AStore) (R : AEnd → Option AVal → AStore → Prop) : Prop :=
  ∀ ι H w (args' : List Value) (u : FrameMode), Rel E ι H σ w → LRel σ.next ι H args args' → ModeRel σ.next ι H m u →
    CallsDIn Fence.wide 0 E.P f args'.toArray u w fun e u' w' => ∃ ι' H' σ' ae m', R ae m' σ' ∧ EndRel σ'.next ι' H' ae e ∧ Rel E ι' H' σ' w' ∧ Ext σ.next ι H σ'.next ι' H' ∧
      (match ae with | .ret _ => ModeRel σ'.next ι' H' m' (settle u') | .pan _ => u' = u)

theorem ACallsM.mono {f : FuncId} {args : List AVal} {m : Option AVal} {σ : AStore} {R R' : AEnd → Option AVal → AStore → Prop} (h : ACallsM E f args m σ R) (hr : ∀ e m σ, R e m σ → R' e m σ) : ACallsM E f args m σ R' :=
  fun ι H w args' u hR ha hm => CallsDIn.mono (h ι H w args' u hR ha hm) fun _ _ _ ⟨ι', H', σ', ae, m', h1, h2⟩ => ⟨ι', H', σ', ae, m', hr _ _ _ h1, h2⟩

theorem ACallsM.of_D {f : FuncId} {args : List AVal} {m : Option AVal} {σ : AStore} {R : AEnd → AStore → Prop} (h : ACallsD E f args σ R) : ACallsM E f args m σ fun e m' σ' => m' = m ∧ R e σ' := by
  intro ι H w args' u hR ha hm
  refine CallsDIn.mono (h ι H w args' u hR ha) ?_
  rintro e u' w' ⟨rfl, ι', H', σ', ae, h1, h2, h3, h4⟩
  refine ⟨ι', H', σ', ae, m, ⟨rfl, h1⟩, h2, h3, h4, ?_⟩
  cases ae with
  | pan v => rfl
  | ret v =>
    have hset : settle u' = u' := by cases hm <;> rfl
    show ModeRel σ'.next ι' H' m (settle u')
    rw [hset]
    exact hm.ext h4

/-- .. in the midst of one that recovers. -/
inductive Md where
  | norm
  | pan (v : AVal)
  | cau

def Md.start : Option AVal → Md
  | none => .norm
  | some v => .pan v
def Md.after : Md → Option AVal
  | .norm => none
  | .pan v => some v
  | .cau => none

inductive MdRel (n : Nat) (ι : Inj) (H : Imm) : Md → FrameMode → Prop
  | norm : MdRel n ι H .norm .returning
  | pan (v : AVal) (w : Value) (h : VRel n ι H v w) : MdRel n ι H (.pan v) (.panicking [{ v := w, recovered := false }])
  | cau (w : Value) : MdRel n ι H .cau (.panicking [{ v := w, recovered := true }])

theorem MdRel.ext {n n' : Nat} {ι ι' : Inj} {H H' : Imm} (he : Ext n ι H n' ι' H') {m : Md} {u : FrameMode} (h : MdRel n ι H m u) : MdRel n' ι' H' m u := by
  cases h with
  | norm => exact .norm
  | pan v w h => exact .pan v w (h.ext he)
  | cau w => exact .cau w
theorem MdRel.start {n : Nat} {ι : Inj} {H : Imm} {m : Option AVal} {u : FrameMode} (h : ModeRel n ι H m u) : MdRel n ι H (Md.start m) u := by
  cases h with
  | ret => exact .norm
  | pan v w h => exact .pan v w h
theorem MdRel.after {n : Nat} {ι : Inj} {H : Imm} {m : Md} {u : FrameMode} (h : MdRel n ι H m u) : ModeRel n ι H m.after (settle u) := by
  cases h with
  | norm => exact .ret
  | pan v w h => exact .pan v w h
  | cau w => exact .ret

/-- Operations, recover among them. -/
def aOpsM (E : Env) (ops : Array Oper) (K : Md → AAct → AStore → Prop) : List Nat → Md → AAct → AStore → Prop
  | [], md, a, σ => K md a σ
  | i :: rest, md, a, σ =>
    match ops[i]? with
    | none => False
    | some o =>
      o.guard = none ∧ a.fits o.dst = true ∧
      match aOp E false o.op (a.ev E.G) σ with
      | .recov =>
        match md with
        | .pan v => aOpsM E ops K rest .cau (a.put o.dst (some v)) σ
        | md => aOpsM E ops K rest md (a.put o.dst (some (.sc .nilIface))) σ
      | .val v σ' => aOpsM E ops K rest md (a.put o.dst (some v)) σ'
      | .skip σ' => aOpsM E ops K rest md (a.put o.dst (some undefA)) σ'
      | _ => False

def aEndM (E : Env) (fn : Func) (R : AEnd → Option AVal → AStore → Prop) (md : Md) : APred
  | .normal, a, σ | .ret, a, σ => a.defers = [] ∧ ∃ v, aResult E fn.results.toList a σ = some v ∧ R (.ret v) md.after σ
  | .pan v, a, σ => a.defers = [] ∧ (match md with | .norm => True | _ => False) ∧ R (.pan v) none σ
  | _, _, _ => False

theorem aOpsM_sound {fn : Func} {rest : Code} {R : AEnd → Option AVal → AStore → Prop} (hrd : E.rd = none) {ops : Array Oper} {c₀ : Frame} {cs : List Frame} {n0 : Nat} {ι0 : Inj} {H0 : Imm} {u0 : FrameMode} :
    ∀ (l : List Nat) (md : Md) (a : AAct) (σ : AStore) (ι : Inj) (H : Imm) (w : World) (a' : Act) (u : FrameMode), Rel E ι H σ w → ActRel σ.next ι H a a' → MdRel σ.next ι H md u → (md = .norm → u = u0) → Ext n0 ι0 H0 σ.next ι H →
      aOpsM E ops (fun md a σ => AWp E rest (aEndM E fn R md) a σ) l md a σ →
      wpOpsSIn Fence.wide 0 E.P ops (Exit.thenS (rest.wpSIn Fence.wide 0 E.P (bodyPostS E.P fn c₀ cs fun e u' w' => ∃ ι' H' σ' ae m', R ae m' σ' ∧ EndRel σ'.next ι' H' ae e ∧ Rel E ι' H' σ' w' ∧ Ext n0 ι0 H0 σ'.next ι' H' ∧
          (match ae with | .ret _ => ModeRel σ'.next ι' H' m' (settle u') | .pan _ => u' = u0)))
        (bodyPostS E.P fn c₀ cs fun e u' w' => ∃ ι' H' σ' ae m', R ae m' σ' ∧ EndRel σ'.next ι' H' ae e ∧ Rel E ι' H' σ' w' ∧ Ext n0 ι0 H0 σ'.next ι' H' ∧
          (match ae with | .ret _ => ModeRel σ'.next ι' H' m' (settle u') | .pan _ => u' = u0))) l a' ({ c₀ with mode := u } :: cs) w
  | [], md, a, σ, ι, H, w, a', u, hR, ha, hm, hu, he, h => by
      show Exit.thenS _ _ .normal a' _ w
      simp only [Exit.thenS]
      refine wpSIn_of_wpIn rfl ?_
      have hw := h ι H w a' hR ha (fun b hb => by rw [hrd] at hb; cases hb)
      rw [hrd, FR_none] at hw
      refine wpIn_mono hw ?_
      rintro e a1 w1 ⟨ι1, H1, σ1, a1', ae, hq, hx, ha1, hR1, he1⟩
      have fin : ∀ ae, aEndM E fn R md ae a1' σ1 → (ae = .normal ∨ ae = .ret) → a1.defers = [] ∧ ∃ u', ({ c₀ with mode := u } :: cs) = { c₀ with mode := u' } :: cs ∧ ∃ v, (results fn a1.tmps).run E.P w1 = .ok v w1 ∧
          ∃ ι' H' σ' ae m', R ae m' σ' ∧ EndRel σ'.next ι' H' ae (.returned v) ∧ Rel E ι' H' σ' w1 ∧ Ext n0 ι0 H0 σ'.next ι' H' ∧ (match ae with | .ret _ => ModeRel σ'.next ι' H' m' (settle u') | .pan _ => u' = u0) := by
        intro ae hq hae
        have hq' : a1'.defers = [] ∧ ∃ v, aResult E fn.results.toList a1' σ1 = some v ∧ R (.ret v) md.after σ1 := by rcases hae with rfl | rfl <;> exact hq
        obtain ⟨hd, v, hr, hRv⟩ := hq'
        have hd' := ha1.defers
        rw [hd] at hd'
        obtain ⟨v', r1, r2⟩ := aResult_sound hR1 ha1 hr
        exact ⟨hd'.nil_inv, u, rfl, v', r1, ι1, H1, σ1, .ret v, md.after, hRv, .ret v v' r2, hR1, he.trans he1, (hm.ext he1).after⟩
      cases hx with
      | normal => exact fin _ hq (.inl rfl)
      | ret => exact fin _ hq (.inr rfl)
      | exit id => exact hq.elim
      | goto l => exact hq.elim
      | pan v v' hv =>
        obtain ⟨hd, hmd, hRv⟩ := hq
        have hd' := ha1.defers
        rw [hd] at hd'
        refine ⟨hd'.nil_inv, u, rfl, ι1, H1, σ1, .pan v, none, hRv, .pan v v' hv, hR1, he.trans he1, ?_⟩
        cases md with
        | norm => exact hu rfl
        | pan _ => exact hmd.elim
        | cau => exact hmd.elim
  | i :: r, md, a, σ, ι, H, w, a', u, hR, ha, hm, hu, he, h => by
      unfold aOpsM at h
      unfold wpOpsSIn
      cases ho : ops[i]? with
      | none => rw [ho] at h; exact h.elim
      | some o =>
        rw [ho] at h
        simp only [] at h ⊢
        obtain ⟨hg, hfit, h⟩ := h
        have hwant : Region.wanted o (yielded ops a'.tmps) = true := by simp [Region.wanted, hg]
        refine ⟨fun _ _ => trivial, ?_⟩
        rw [if_pos hwant]
        have hsnd := aOp_sound hR (ha.rho hR) false o
        split at h
        · rename_i hop
          rw [hop] at hsnd
          have hsnd : (execOp a'.eval o).run E.P w = .ok .recover w := hsnd
          rw [hsnd]
          simp only []
          have put : ∀ (v : AVal) (v' : Value), VRel σ.next ι H v v' → ActRel σ.next ι H (a.put o.dst (some v)) (a'.put o.dst v') := fun v v' hv => ha.put hfit hv
          cases hm with
          | norm =>
            have : recoverD ({ c₀ with mode := .returning } :: cs) = none := rfl
            rw [this]
            exact aOpsM_sound hrd r .norm _ σ ι H w _ .returning hR (put _ _ (.sc _)) .norm hu he h
          | pan v v' hv =>
            have : recoverD ({ c₀ with mode := .panicking [{ v := v', recovered := false }] } :: cs) = some (v', { c₀ with mode := .panicking [{ v := v', recovered := true }] } :: cs) := rfl
            rw [this]
            exact aOpsM_sound hrd r .cau _ σ ι H w _ _ hR (put _ _ hv) (.cau v') (fun hh => by cases hh) he h
          | cau v' =>
            have : recoverD ({ c₀ with mode := .panicking [{ v := v', recovered := true }] } :: cs) = none := rfl
            rw [this]
            exact aOpsM_sound hrd r .cau _ σ ι H w _ _ hR (put _ _ (.sc _)) (.cau v') (fun hh => by cases hh) he h
        · rename_i v σ' hop
          rw [hop] at hsnd
          obtain ⟨v', w1, ι1, H1, hr, hv, hR1, he1⟩ := hsnd
          rw [hr]
          exact aOpsM_sound hrd r md _ σ' ι1 H1 w1 _ u hR1 ((ha.ext he1).put hfit hv) (hm.ext he1) hu (he.trans he1) h
        · rename_i σ' hop
          rw [hop] at hsnd
          obtain ⟨w1, hr, hR1, hn⟩ := hsnd
          rw [hr]
          refine aOpsM_sound hrd r md _ σ' ι H w1 _ u hR1 ?_ (by rw [hn]; exact hm) hu (by rw [hn]; exact he) h
          rw [hn]
          exact ha.put hfit undefA_rel
        · exact h.elim

theorem ACallsM.of_wpR (hrd : E.rd = none) {f : FuncId} {fn : Func} {id : Nat} {ops : Array Oper} {rest : Code} {args : List AVal} {m : Option AVal} {σ : AStore} {R : AEnd → Option AVal → AStore → Prop} (hf : E.P.funcs[f]? = some fn)
    (hb : fn.body = some (.seq (.region id ops false) rest)) (hn : args.length ≤ fn.ntmps) (hl : args.length < 1000)
    (h : aOpsM E ops (fun md a σ => AWp E rest (aEndM E fn R md) a σ) (List.range ops.size) (Md.start m) (aInit args fn.ntmps) σ) : ACallsM E f args m σ R := by
  intro ι H w args' u hR hargs hm
  have ha := aInit_rel hargs hn hl
  refine callsDIn_of_wpSIn hf hb trivial ?_
  intro c₀ cs hc
  have hc0 : c₀ = { c₀ with mode := u } := by rw [← hc]
  refine wpSIn_seq (wpSIn_region ?_)
  rw [hc0]
  refine aOpsM_sound (u0 := u) hrd (List.range ops.size) (Md.start m) _ σ ι H w _ u hR (by simpa using ha) (MdRel.start hm) (fun _ => rfl) (Ext.refl _ _ _) h

def ALeaves (E : Env) (fn : Func) (a : AAct) (R : AEnd → AStore → Prop) : List ADef → Option AVal → AStore → Prop
  | [], none, σ => ∃ v, aResult E fn.results.toList a σ = some v ∧ R (.ret v) σ
  | [], some v, σ => R (.pan v) σ
  | d :: ds, m, σ =>
    match d.fn with
    | .yield b => σ.get b = some .dfd ∧ ALeaves E fn a R ds m (σ.del b)
    | .func g => E.fns g = true ∧ ACallsM E g (d.args ++ d.cap) m σ fun e m' σ' =>
      match e, m with
      | .ret _, _ => ALeaves E fn a R ds m' σ'
      | .pan v, none => ALeaves E fn a R ds (some v) σ'
      | .pan _, some _ => False
    | _ => False

theorem ALeaves.sound {fn : Func} {R : AEnd → AStore → Prop} {n0 : Nat} {ι0 : Inj} {H0 : Imm} {a : AAct} {a' : Act} : ∀ (ds : List ADef) (ds' : List Deferred) (m : Option AVal) (u : FrameMode) (σ : AStore) (ι : Inj) (H : Imm) (w : World),
    Rel E ι H σ w → ActRel σ.next ι H a a' → DefsRel σ.next ι H ds ds' → ModeRel σ.next ι H m u → Ext n0 ι0 H0 σ.next ι H → ALeaves E fn a R ds m σ →
    LeavesInM Fence.wide 0 E.P fn a'.tmps (fun e w' => ∃ ι' H' σ' ae, R ae σ' ∧ EndRel σ'.next ι' H' ae e ∧ Rel E ι' H' σ' w' ∧ Ext n0 ι0 H0 σ'.next ι' H') ds' u w
  | [], ds', m, u, σ, ι, H, w, hR, ha, hds, hm, he, h => by
      cases hds
      cases hm with
      | ret =>
        obtain ⟨v, hr, hv⟩ := h
        obtain ⟨v', r1, r2⟩ := aResult_sound hR ha hr
        exact ⟨v', r1, ι, H, σ, .ret v, hv, .ret v v' r2, hR, he⟩
      | pan v v' hv => exact ⟨ι, H, σ, .pan v, h, .pan v v' hv, hR, he⟩
  | d :: ds, ds', m, u, σ, ι, H, w, hR, ha, hds, hm, he, h => by
      have hne : u ≠ .run := by cases hm <;> simp
      cases hds with
      | mark b _ ds' hb hs =>
        obtain ⟨hg, hrest⟩ := h
        obtain ⟨⟨z, hh⟩, _, hsz⟩ := hR.live b _ hg
        refine ⟨hne, .inl ⟨(ι b).blk, _, rfl, ?_, ALeaves.sound ds ds' m u (σ.del b) ι H { w with heap := w.heap.setIfInBounds (ι b).blk (.deferred none) } (hR.give hg (by simp)) ha hs hm he hrest⟩⟩
        have hgo : (getObj (ι b).blk).run E.P w = .ok (.deferred (some [])) w := by simp [getObj, Sem.run, hh]
        have hset := fun o => run_setObj' (P := E.P) hh (by simp) o
        simp [Instr.takeDeferred, hgo, hset]
      | cons _ d' _ ds' hd hs =>
        obtain ⟨⟨cap', ht, hcap⟩, ⟨args', hargs, hla⟩, ⟨g, hg⟩⟩ := hd
        simp only [ALeaves, hg] at h
        obtain ⟨hfn, hc⟩ := h
        refine ⟨hne, .inr ⟨(fun hh => by cases hh), d.fn, cap'.toArray, g, (args' ++ cap').toArray, ht, ?_, fun _ _ => trivial, ?_⟩⟩
        · rw [ht, hargs, hg]
          simp only [invoke]
          rw [run_callFunc hfn]
          simp
        · refine CallsDIn.mono (hc ι H w (args' ++ cap') u hR (hla.append hcap) hm) ?_
          rintro e u' w1 ⟨ι1, H1, σ1, ae, m', hq, hx, hR1, he1, hu⟩
          cases hx with
          | ret v v' hv =>
            exact ALeaves.sound ds ds' m' (settle u') σ1 ι1 H1 w1 hR1 (ha.ext he1) (hs.ext he1) hu (he.trans he1) hq
          | pan v v' hv =>
            have hu : u' = u := hu
            subst hu
            cases hm with
            | ret => exact ALeaves.sound ds ds' (some v) _ σ1 ι1 H1 w1 hR1 (ha.ext he1) (hs.ext he1) (.pan v v' hv) (he.trans he1) hq
            | pan => exact hq.elim

def aEndD (E : Env) (fn : Func) (R : AEnd → AStore → Prop) : APred
  | .normal, a, σ | .ret, a, σ => ALeaves E fn a R a.defers none σ
  | .pan v, a, σ => ALeaves E fn a R a.defers (some v) σ
  | _, _, _ => False

theorem ACalls.of_wpD (hrd : E.rd = none) {f : FuncId} {fn : Func} {c : Code} {args : List AVal} {σ : AStore} {R : AEnd → AStore → Prop} (hf : E.P.funcs[f]? = some fn) (hb : fn.body = some c) (hn : args.length ≤ fn.ntmps) (hl : args.length < 1000)
    (h : AWp E c (aEndD E fn R) (aInit args fn.ntmps) σ) : ACalls E f args σ R := by
  intro ι H w args' hR hargs
  have ha := aInit_rel hargs hn hl
  refine (callsIn_wide (n := 0)).1 (callsIn_of_wp_marks hf hb trivial ?_)
  have hw := h ι H w _ hR ha (fun b hb => by rw [hrd] at hb; cases hb)
  rw [hrd, FR_none] at hw
  refine wpIn_mono (by simpa using hw) ?_
  rintro e a1 w1 ⟨ι1, H1, σ1, a1', ae, hq, hx, ha1, hR1, he1⟩
  cases hx with
  | normal => exact ALeaves.sound _ _ none _ σ1 ι1 H1 w1 hR1 ha1 ha1.defers .ret he1 hq
  | ret => exact ALeaves.sound _ _ none _ σ1 ι1 H1 w1 hR1 ha1 ha1.defers .ret he1 hq
  | exit id => exact hq.elim
  | goto l => exact hq.elim
  | pan v v' hv => exact ALeaves.sound _ _ (some v) _ σ1 ι1 H1 w1 hR1 ha1 ha1.defers (.pan v v' hv) he1 hq

/-! ### A loop over a function -/

/-- What is owed where the function that is ranged over has ended. -/
def aRangePost (Q : APred) (a : AAct) (l : Nat) : AEnd → AStore → Prop
  | .ret _, σ => ∃ st pend ps as bd tm nt d, σ.get l = some (.loop st pend ps as bd tm nt d) ∧ (match st with | .busy => False | _ => True) ∧
      (match pend with
       | none => Q .normal a (σ.set l (.loop .exhausted pend ps as bd tm nt d))
       | some .ret => Q .ret a (σ.set l (.loop .exhausted pend ps as bd tm nt d))
       | some (.exit id) => Q (.exit id) a (σ.set l (.loop .exhausted pend ps as bd tm nt d))
       | some (.goto t) => Q (.goto t) a (σ.set l (.loop .exhausted pend ps as bd tm nt d))
       | _ => False)
  | .pan v, σ => Q (.pan v) a σ

def aRangeF (E : Env) (Q : APred) (ps : Array Tmp) (as bd : Code) (a : AAct) (σ : AStore) (f : FuncId) (first cap : List AVal) : Prop :=
  match E.rd with
  | none => ACalls E f (first ++ [.yld (σ.next + 1)] ++ cap) ((σ.alloc .dfd).alloc (.loop .ready none ps as bd a.tmps a.n σ.next)) (aRangePost Q { a with defers := ⟨.yield σ.next, [], []⟩ :: a.defers } (σ.next + 1))
  | some l0 => ∃ st pend ps0 as0 bd0 tm nt d, σ.get l0 = some (.loop st pend ps0 as0 bd0 tm nt d) ∧
      ACalls E f (first ++ [.yld σ.next] ++ cap) (σ.alloc (.loop .ready none ps as bd a.tmps a.n d)) (aRangePost Q a σ.next)

theorem aRangePost_sound {Q : APred} {a : AAct} {a' : Act} {l : Nat} {n0 : Nat} {ι0 : Inj} {H0 : Imm} {ιr : Inj} {ι : Inj} {H : Imm} {σ : AStore} {w : World} {ae : AEnd} {e : Ending} (h : aRangePost Q a l ae σ)
    (hx : EndRel σ.next ι H ae e) (hR : Rel E ι H σ w) (ha : ActRel σ.next ι H a a') (he : Ext n0 ι0 H0 σ.next ι H) : rangePost (FR ιr E.rd) 0 E.P (ι l).blk (APost E n0 ι0 H0 Q) a' e w := by
  cases hx with
  | pan v v' hv => exact ⟨ι, H, σ, a, _, h, .pan v v' hv, ha, hR, he⟩
  | ret v v' hv =>
    obtain ⟨st, pend, ps, as, bd, tm, nt, d, hg, hst, hp⟩ := h
    obtain ⟨fn, tmps, q1, q2⟩ := hR.set_loop hg .exhausted pend
    refine ⟨pend, { w with heap := w.heap.setIfInBounds (ι l).blk (.loop ⟨.exhausted, pend, fn, tmps, ps, as, bd, (ι d).blk⟩) }, ?_, ?_⟩
    · have hgo : (getObj (ι l).blk).run E.P w = .ok (.loop ⟨st, pend, fn, tmps, ps, as, bd, (ι d).blk⟩) w := by simp [getObj, Sem.run, q1]
      have hset := fun o => run_setObj' (P := E.P) q1 (by simp) o
      cases st <;> first
        | exact hst.elim
        | (simp only [Instr.endLoop, Instr.getLoop, Sem.run_bind, hgo, Result.andThen_ok, Sem.run_pure]
           rw [if_neg (by decide)]
           simp [hset])
    · cases pend with
      | none => exact ⟨ι, H, _, a, _, hp, .normal, ha, q2, he⟩
      | some c =>
        cases c with
        | ret => exact wpIn_ret ⟨ι, H, _, a, _, hp, .ret, ha, q2, he⟩
        | exit id => exact wpIn_exit ⟨ι, H, _, a, _, hp, .exit id, ha, q2, he⟩
        | goto t => exact wpIn_goto ⟨ι, H, _, a, _, hp, .goto t, ha, q2, he⟩
        | _ => exact hp.elim

theorem AWp.rangeFunc {g : Operand} {ps : Array Tmp} {as bd : Code} {Q : APred} {a : AAct} {σ : AStore} {f : FuncId} {first cap : List AVal} (hg : a.ev E.G g = some (.func (.func f) first cap)) (hfn : E.fns f = true)
    (h : aRangeF E Q ps as bd a σ f first cap) : AWp E (.rangeFunc g ps as bd) Q a σ := by
  intro ι H w a' hR ha hr
  obtain ⟨fs', cs', he, hfs, hcs⟩ := (ha.rho hR g _ hg).func_inv
  refine wpIn_rangeFunc ?_
  intro fn _
  have tail : ∀ (l : Nat) (w1 : World), (resolve a'.eval (rangeCall g l) 0).run E.P w1 = .ok { target := .fn (.func f) cs'.toArray, args := (fs' ++ [Value.func (.yield l) #[] #[]]).toArray } w1 ∧
      (invoke (.fn (.func f) cs'.toArray) (fs' ++ [Value.func (.yield l) #[] #[]]).toArray).run E.P w1 = .ok (.enter f ((fs' ++ [Value.func (.yield l) #[] #[]]) ++ cs').toArray) w1 := by
    intro l w1
    refine ⟨?_, ?_⟩
    · have hc : ∀ v, a'.eval (.const v) = v := fun _ => rfl
      simp [resolve, he, Deferred.ofValue, hc]
    · simp only [invoke]
      rw [run_callFunc hfn]
      simp
  unfold aRangeF at h
  split at h
  · rename_i hrd
    have hd1 : BlkRel σ.next ι H { w with heap := w.heap.push (.deferred (some [])) } ⟨w.heap.size, 0, 0, 0, 0⟩ .dfd := ⟨rfl, by simp⟩
    have hR1 := hR.alloc (p := ⟨w.heap.size, 0, 0, 0, 0⟩) rfl hd1
    have he1 : Ext σ.next ι H (σ.next + 1) (upd ι σ.next ⟨w.heap.size, 0, 0, 0, 0⟩) H := Ext.upd _ _ _ _
    have ha1 := ha.ext he1
    have hd2 : BlkRel (σ.alloc .dfd).next (upd ι σ.next ⟨w.heap.size, 0, 0, 0, 0⟩) H { w with heap := (w.heap.push (.deferred (some []))).push (.loop ⟨.ready, none, fn, a'.tmps, ps, as, bd, w.heap.size⟩) } ⟨w.heap.size + 1, 0, 0, 0, 0⟩
        (.loop .ready none ps as bd a.tmps a.n σ.next) := by
      refine ⟨rfl, Nat.lt_succ_self _, fn, a'.tmps, ?_, ha.size, fun t v ht => ha1.tmps t v ht⟩
      rw [upd_self]
      show ((w.heap.push _).push _)[w.heap.size + 1]? = _
      rw [Array.getElem?_push]
      simp
    have hR2 := hR1.alloc (p := ⟨w.heap.size + 1, 0, 0, 0, 0⟩) (by simp) hd2
    have he2 := he1.trans (Ext.upd (σ.next + 1) (upd ι σ.next ⟨w.heap.size, 0, 0, 0, 0⟩) H ⟨w.heap.size + 1, 0, 0, 0, 0⟩)
    obtain ⟨t1, t2⟩ := tail (w.heap.size + 1) { w with heap := (w.heap.push (.deferred (some []))).push (.loop ⟨.ready, none, fn, a'.tmps, ps, as, bd, w.heap.size⟩) }
    refine ⟨w.heap.size + 1, [{ target := .collected w.heap.size, args := #[] }], _, _, _, f, _, _, ?_, t1, fun _ _ => trivial, t2, (fun hh => by cases hh), ?_⟩
    · simp [FR, hrd, Instr.enterLoop, newObj, Sem.run]; rfl
    · have hy : VRel (σ.next + 1 + 1) (upd (upd ι σ.next ⟨w.heap.size, 0, 0, 0, 0⟩) (σ.next + 1) ⟨w.heap.size + 1, 0, 0, 0, 0⟩) H (.yld (σ.next + 1)) (.func (.yield (w.heap.size + 1)) #[] #[]) := by
        have := VRel.yld (n := σ.next + 1 + 1) (ι := upd (upd ι σ.next ⟨w.heap.size, 0, 0, 0, 0⟩) (σ.next + 1) ⟨w.heap.size + 1, 0, 0, 0, 0⟩) (H := H) (σ.next + 1) (Nat.lt_succ_self _)
        rwa [upd_self] at this
      refine callsIn_FR (Calls.mono (h _ H _ _ hR2 (((hfs.ext he2).append (.cons _ _ _ _ hy .nil)).append (hcs.ext he2))) ?_)
      rintro e w3 ⟨ι3, H3, σ3, ae, hq, hx, hR3, he3⟩
      have hl : (ι3 (σ.next + 1)).blk = w.heap.size + 1 := by
        have := he3.inj (σ.next + 1) (show σ.next + 1 < σ.next + 1 + 1 by omega)
        rw [this]
        show (upd _ (σ.next + 1) _ (σ.next + 1)).blk = _
        rw [upd_self]
      have hdm : (ι3 σ.next).blk = w.heap.size := by
        have := he3.inj σ.next (show σ.next < σ.next + 1 + 1 by omega)
        rw [this]
        show (upd _ (σ.next + 1) _ σ.next).blk = _
        have h0 : σ.next ≠ σ.next + 1 := by omega
        rw [upd_ne _ _ h0, upd_self]
      have ha3 := (ha.ext he2).ext he3
      have ha3' : ActRel σ3.next ι3 H3 { a with defers := ⟨.yield σ.next, [], []⟩ :: a.defers } { a' with defers := { target := .collected w.heap.size, args := #[] } :: a'.defers } :=
        ⟨ha3.size, ha3.tmps, by rw [← hdm]; exact .mark _ _ _ (Nat.lt_of_lt_of_le (show σ.next < σ.next + 1 + 1 by omega) he3.next) ha3.defers⟩
      have := aRangePost_sound (ιr := ι) hq hx hR3 ha3' (he2.trans he3)
      rw [hl] at this
      exact this
  · rename_i l0 hrd
    obtain ⟨st, pend, ps0, as0, bd0, tm, nt, d, hg0, hcall⟩ := h
    obtain ⟨z, hd, fn0, tmps0, g1, g2, g3⟩ := (hR.live l0 _ hg0).1
    have hd2 : BlkRel σ.next ι H { w with heap := w.heap.push (.loop ⟨.ready, none, fn, a'.tmps, ps, as, bd, (ι d).blk⟩) } ⟨w.heap.size, 0, 0, 0, 0⟩
        (.loop .ready none ps as bd a.tmps a.n d) := ⟨rfl, hd, fn, a'.tmps, by simp, ha.size, fun t v ht => ha.tmps t v ht⟩
    have hR2 := hR.alloc (p := ⟨w.heap.size, 0, 0, 0, 0⟩) rfl hd2
    have he2 : Ext σ.next ι H (σ.next + 1) (upd ι σ.next ⟨w.heap.size, 0, 0, 0, 0⟩) H := Ext.upd _ _ _ _
    obtain ⟨t1, t2⟩ := tail w.heap.size { w with heap := w.heap.push (.loop ⟨.ready, none, fn, a'.tmps, ps, as, bd, (ι d).blk⟩) }
    refine ⟨w.heap.size, [], _, _, _, f, _, _, ?_, t1, fun _ _ => trivial, t2, (fun hh => by cases hh), ?_⟩
    · simp [FR, hrd, Instr.enterLoop, Instr.getLoop, getObj, newObj, Sem.run, g1]
    · have hy : VRel (σ.next + 1) (upd ι σ.next ⟨w.heap.size, 0, 0, 0, 0⟩) H (.yld σ.next) (.func (.yield w.heap.size) #[] #[]) := by
        have := VRel.yld (n := σ.next + 1) (ι := upd ι σ.next ⟨w.heap.size, 0, 0, 0, 0⟩) (H := H) σ.next (Nat.lt_succ_self _)
        rwa [upd_self] at this
      refine callsIn_FR (Calls.mono (hcall _ H _ _ hR2 (((hfs.ext he2).append (.cons _ _ _ _ hy .nil)).append (hcs.ext he2))) ?_)
      rintro e w3 ⟨ι3, H3, σ3, ae, hq, hx, hR3, he3⟩
      have hl : (ι3 σ.next).blk = w.heap.size := by
        have := he3.inj σ.next (show σ.next < σ.next + 1 by omega)
        rw [this]
        show (upd _ σ.next _ σ.next).blk = _
        rw [upd_self]
      have := aRangePost_sound (ιr := ι) hq hx hR3 ((ha.ext he2).ext he3) (he2.trans he3)
      rw [hl] at this
      exact this
end
end Abs
end
