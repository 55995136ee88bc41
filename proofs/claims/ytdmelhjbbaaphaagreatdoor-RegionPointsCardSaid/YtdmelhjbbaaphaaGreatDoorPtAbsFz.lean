/-
  Part of the abstract layer (Fz): values, stores and steps that stand for those of the model, and the proof that they do. It proves no statement by itself.
-/
import Derived.Test.YtdmelhjbbaaphaaGreatDoorPtAbsD8
import Derived.Test.YtdmelhjbbaaphaaGreatDoorPtAbsV4
noncomputable section
namespace Abs
set_option linter.unusedVariables false
set_option linter.unusedSimpArgs false
set_option linter.unusedSectionVars false
open Go
mutual
def repl (b sz : Nat) (els : List AVal) : AVal → AVal
 | .slice b' off len => if b' = b ∧ off + len ≤ els.length then .data sz false ((els.drop off).take len) else .slice b' off len
 | .iptr cs => .iptr (repls b sz els cs)
 | .data s t es => .data s t (repls b sz els es)
 | .func fn f c => .func fn (repls b sz els f) (repls b sz els c)
 | .iface t v => .iface t (repl b sz els v)
 | .agg cs => .agg (repls b sz els cs)
 | .tuple cs => .tuple (repls b sz els cs)
 | v => v
def repls (b sz : Nat) (els : List AVal) : List AVal → List AVal
 | [] => []
 | v :: vs => repl b sz els v :: repls b sz els vs
end
section
variable {n b sz : Nat} {els : List AVal} {ι : Inj} {H H' : Imm}
theorem repls_length : ∀ l, (repls b sz els l).length = l.length
 | [] => rfl
 | v :: l => by simp [repls, repls_length l]
theorem repl_isAgg (v : AVal) : (repl b sz els v).isAgg = v.isAgg := by
 cases v <;> try rfl
 simp only [repl]; split <;> rfl
variable (hsz : (ι b).sz = sz) (hH : H.CLe H') (hD : DRel n ι H' (H'.cell? (ι b).blk) sz els (ι b).base)
include hsz hH hD
mutual
theorem VRel.repl : ∀ {v : AVal} {w : Value}, VRel n ι H v w → VRel n ι H' (Abs.repl b sz els v) w
  | _, _, .sc v => .sc v
  | _, _, .ptr b i k h => .ptr b i k h
  | _, _, .iptr cs b o h => .iptr _ b o (CRel.repl (fun _ _ hc => hH _ _ _ hc) h)
  | _, _, .slice b' off len cap h hl hc => by
      simp only [Abs.repl]
      split
      · rename_i hh
        obtain ⟨rfl, hle⟩ := hh
        have := (hD.drop off).take len
        rw [← hsz] at this ⊢
        refine .data _ false _ _ _ len cap ?_ hl (by simp) (by simpa [hsz] using this)
        simp; omega
      · exact .slice b' off len cap h hl hc
  | _, _, .view b' off len h hc => .view b' off len h hc
  | _, _, .endS b' off o cap h hc ho => .endS b' off o cap h hc ho
  | _, _, .data s t es b o len cap hlen hl ht h => .data s t _ b o len cap (by rw [repls_length]; exact hlen) hl ht (DRel.repl (fun _ _ hc => hH _ _ _ hc) h)
  | _, _, .map b h => .map b h
  | _, _, .yld b h => .yld b h
  | _, _, .func fn f c f' c' hf hc => .func fn _ _ f' c' (LRel.repl hf) (LRel.repl hc)
  | _, _, .iface t v v' h => .iface t _ v' (VRel.repl h)
  | _, _, .agg cs cs' h => .agg _ cs' (LRel.repl h)
  | _, _, .tuple cs cs' h => .tuple _ cs' (LRel.repl h)
theorem LRel.repl : ∀ {vs : List AVal} {ws : List Value}, LRel n ι H vs ws → LRel n ι H' (repls b sz els vs) ws
  | _, _, .nil => .nil
  | _, _, .cons v w vs ws h hs => .cons _ w _ ws (VRel.repl h) (LRel.repl hs)
theorem CRel.repl : ∀ {g g' : Nat → Option Value} {vs : List AVal} {o : Nat}, RLe g g' → CRel n ι H g vs o → CRel n ι H' g' (repls b sz els vs) o
  | _, g', _, _, _, .nil _ o => .nil g' o
  | _, g', _, _, hg, .cons _ v w vs o ho h hs => .cons g' _ w _ o (hg _ _ ho) (VRel.repl h) (CRel.repl hg hs)
theorem DRel.repl : ∀ {g g' : Nat → Option Value} {s : Nat} {vs : List AVal} {o : Nat}, RLe g g' → DRel n ι H g s vs o → DRel n ι H' g' s (repls b sz els vs) o
  | _, g', _, _, _, _, .nil _ s o => .nil g' s o
  | _, g', _, _, _, hg, .agg _ s cs es o hs h hr => .agg g' s _ _ o (by rw [repls_length]; exact hs) (CRel.repl hg h) (DRel.repl hg hr)
  | _, g', _, _, _, hg, .one _ v w es o hv ho h hr => .one g' _ w _ o (by rw [repl_isAgg]; exact hv) (hg _ _ ho) (VRel.repl h) (DRel.repl hg hr)
end
end
def replB (b sz : Nat) (els : List AVal) : ABlk → ABlk
 | .cells s es => .cells s (repls b sz els es)
 | x => x
def T.mapv {α : Type} (f : α → α) : T α → T α
 | .leaf => .leaf
 | .node l v r => .node (l.mapv f) (v.map f) (r.mapv f)
theorem T.mapv_get {α : Type} (f : α → α) : ∀ (t : T α) (k : Nat), (t.mapv f).getS k = (t.getS k).map f
  | .leaf, k => rfl
  | .node l v r, k => by
      simp only [T.mapv, T.getS]
      split
      · rfl
      · split
        · exact T.mapv_get f l _
        · exact T.mapv_get f r _
def replS (b sz : Nat) (els : List AVal) (σ : AStore) : AStore := ⟨(σ.del b).t.mapv (replB b sz els), σ.next, σ.tys⟩
theorem replS_next {b sz : Nat} {els : List AVal} {σ : AStore} : (replS b sz els σ).next = σ.next := rfl
theorem replS_get {b sz : Nat} {els : List AVal} {σ : AStore} {b' : Nat} : (replS b sz els σ).get b' = if b' = b then none else (σ.get b').map (replB b sz els) := by
 by_cases hb : b' < σ.next
 ·rw [AStore.get_of_lt (σ := replS b sz els σ) hb]
  show T.get ((σ.del b).t.mapv (replB b sz els)) b' = _
  rw [T.get_eq, T.mapv_get, ← T.get_eq, ← AStore.get_of_lt (σ := σ.del b) hb, AStore.get_del]
  split <;> rfl
 ·rw [AStore.fin _ _ (show (replS b sz els σ).next ≤ b' by rw [replS_next]; omega), AStore.fin σ b' (by omega)]
  split <;> rfl
def replE (b sz : Nat) (els : List AVal) (e : Ev) : Ev := e.map fun p => (p.1, repl b sz els p.2)
theorem replE_look {b sz : Nat} {els : List AVal} : ∀ (e : Ev) (t : Nat), look? (replE b sz els e) t = (look? e t).map (repl b sz els)
  | [], t => rfl
  | (d, v) :: r, t => by
      show (if t = d then some (repl b sz els v) else look? (replE b sz els r) t) = Option.map _ (if t = d then some v else look? r t)
      split
      · rfl
      · exact replE_look r t
theorem replE_ok {b sz : Nat} {els : List AVal} {e : Ev} (h : okE e) : okE (replE b sz els e) := by
 intro d v hm
 simp only [replE, List.mem_map] at hm
 obtain ⟨p, hp, he⟩ := hm
 cases he
 exact h p.1 p.2 hp
section
variable {E : Env} {n : Nat} {c : Code} {Q : SPred} {e : Ev} {σ : AStore}
theorem Z_freeze {b sz : Nat} {els : List AVal} (hg : σ.get b = some (.cells sz els)) (h : Z E n c Q (replE b sz els e) (replS b sz els σ)) : Z E n c Q e σ := by
 intro hc he ι H w a' hR ha hrd
 obtain ⟨⟨l1, l2, cc, elem, fr, l3, l4, l5, l6, _⟩, l7, l8⟩ := hR.live b _ hg
 have hle : H.Le (H.with (ι b).blk (.cells cc elem fr)) := by
  intro c o hco
  simp only [Imm.with]
  split
  ·rename_i hcb; subst hcb; rw [l7] at hco; cases hco
  ·exact hco
 have hcell : ∀ o v, cc[o]? = some v → (H.with (ι b).blk (.cells cc elem fr)).cell? (ι b).blk o = some v := by
  intro o v ho
  simp [Imm.cell?, Imm.with, ho]
 have hE : Ext σ.next ι H σ.next ι (H.with (ι b).blk (.cells cc elem fr)) := ⟨Nat.le_refl _, fun _ _ => rfl, hle⟩
 have hD : DRel σ.next ι (H.with (ι b).blk (.cells cc elem fr)) ((H.with (ι b).blk (.cells cc elem fr)).cell? (ι b).blk) sz els (ι b).base := l6.ext hE hcell
 have hR' : Rel E ι (H.with (ι b).blk (.cells cc elem fr)) (replS b sz els σ) w := by
  refine ⟨?_, ?_, ?_, fun g => (hR.glob g).ext hE, hR.keep, hR.tys⟩
  ·intro c o hco
   simp only [Imm.with] at hco
   split at hco
   ·rename_i hcb; cases hco; rw [hcb]; exact l3
   ·exact hR.imm c o hco
  ·intro b' x hx
   rw [replS_get] at hx
   split at hx
   ·cases hx
   ·rename_i hne
    cases hgb : σ.get b' with
    | none => rw [hgb] at hx; cases hx
    | some y =>
     rw [hgb] at hx
     simp only [Option.map_some, Option.some.injEq] at hx
     subst hx
     obtain ⟨m1, m2, m3⟩ := hR.live b' y hgb
     have hblk : (ι b').blk ≠ (ι b).blk := fun hc => hne (hR.inj b' b _ _ hgb hg hc)
     refine ⟨?_, by simp [Imm.with, hblk, m2], m3⟩
     cases y with
     | cells s es =>
      obtain ⟨k1, k2, cc', elem', fr', k3, k4, k5, k6, k7⟩ := m1
      exact ⟨k1, by rw [repls_length]; exact k2, cc', elem', fr', k3, k4, k5, DRel.repl l1 hle.cle hD (fun _ _ h => h) k6, k7⟩
     | _ => exact m1.ext hE rfl (Nat.le_refl _) (fun _ _ _ _ => rfl)
  ·intro b1 b2 x1 x2 h1 h2 h3
   rw [replS_get] at h1 h2
   split at h1
   ·cases h1
   ·split at h2
    ·cases h2
    ·cases e1 : σ.get b1 with
     | none => rw [e1] at h1; cases h1
     | some y1 => cases e2 : σ.get b2 with
      | none => rw [e2] at h2; cases h2
      | some y2 => exact hR.inj b1 b2 _ _ e1 e2 h3
 have ha' : ActRel σ.next ι (H.with (ι b).blk (.cells cc elem fr)) (actOf n (replE b sz els e)) a' := by
  refine ⟨by rw [(actOf_n n _).1, ← (actOf_n n e).1]; exact ha.size, ?_, by rw [(actOf_n n _).2]; have := ha.defers; rw [(actOf_n n e).2] at this; rw [this.nil_inv]; exact .nil⟩
  intro t v ht
  rw [get_actOf (replE_ok he), replE_look] at ht
  cases hl : look? e t with
  | none => rw [hl] at ht; cases ht
  | some u =>
   rw [hl] at ht
   simp only [Option.map_some, Option.some.injEq] at ht
   subst ht
   have := ha.tmps t u (by rw [get_actOf he]; exact hl)
   rw [(actOf_n n _).1]
   rw [(actOf_n n e).1] at this
   exact ⟨this.1, VRel.repl l1 hle.cle hD this.2⟩
 have := h hc (replE_ok he) ι _ w a' hR' ha' hrd
 refine wpIn_mono this ?_
 intro ex a1 w1 hp
 exact APost.trans hE hp
end
section
variable {b sz : Nat} {els : List AVal} {σ : AStore}
theorem repl_sc {v : Value} : repl b sz els (.sc v) = .sc v := rfl
theorem repl_ptr {b' i k : Nat} : repl b sz els (.ptr b' i k) = .ptr b' i k := rfl
theorem repl_data {s : Nat} {t : Bool} {es : List AVal} : repl b sz els (.data s t es) = .data s t (repls b sz els es) := rfl
theorem repl_self : repl b sz els (.slice b 0 els.length) = .data sz false els := by simp [repl]
theorem repls_cons {v : AVal} {vs : List AVal} : repls b sz els (v :: vs) = repl b sz els v :: repls b sz els vs := rfl
theorem replB_cells {s : Nat} {es : List AVal} : replB b sz els (.cells s es) = .cells s (repls b sz els es) := rfl
theorem IsD.repl {s : Nat} {x : AVal} {xs : List AVal} (h : IsD s x xs) (hx : repls b sz els xs = xs) : Abs.repl b sz els x = x := by
 rcases h with ⟨_, a, c, rfl⟩ | ⟨t, rfl⟩
 ·rfl
 ·rw [repl_data, hx]
theorem repls_map {α : Type} {f : α → AVal} (h : ∀ x, Abs.repl b sz els (f x) = f x) : ∀ l : List α, repls b sz els (l.map f) = l.map f
 | [] => rfl
 | x :: l => by rw [List.map_cons, repls_cons, h x, repls_map h l]
end
attribute [go_sem] repl_sc repl_ptr repl_data repl_self repls_cons replB_cells replS_get replS_next
end Abs
namespace Abs
open Go
end Abs
end
