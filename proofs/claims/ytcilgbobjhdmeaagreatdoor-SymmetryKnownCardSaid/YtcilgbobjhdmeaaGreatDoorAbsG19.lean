/-
  Part of the abstract layer (Ct): values, stores and steps that stand for those of the model, and the proof that they do. It proves no statement by itself.
-/
import Derived.Test.YtcilgbobjhdmeaaGreatDoorAbsG15
import Derived.Below
noncomputable section
namespace Abs
set_option linter.unusedVariables false
set_option linter.unusedSimpArgs false
set_option linter.unusedSectionVars false
open Go Go.RowKit

/-! ### Calls that are known by a contract of another make -/

/-- Old memory, and the outside, are as they were. -/
structure Keeps (w w' : World) : Prop where
  os : w'.os = w.os
  output : w'.output = w.output
  size : w.heap.size ≤ w'.heap.size
  block : ∀ k, k < w.heap.size → w'.heap[k]? = w.heap[k]?
theorem Keeps.of {w w' : World} (h : Below w.heap.size w w') : Keeps w w' := ⟨h.os, h.output, h.size, h.block⟩

theorem Rel.below {E : Env} {ι : Inj} {H : Imm} {w w' : World} (h : Rel E ι H empty w) (hb : Keeps w w') : Rel E ι H empty w' where
  imm c o hc := by
    have := h.imm c o hc
    have hlt : c < w.heap.size := by
      rcases Nat.lt_or_ge c w.heap.size with hh | hh
      · exact hh
      · rw [Array.getElem?_eq_none hh] at this; cases this
    rw [hb.block c hlt]; exact this
  live b x hx := by simp [AStore.fin empty b (Nat.zero_le _)] at hx
  inj b b' x x' hx := by simp [AStore.fin empty b (Nat.zero_le _)] at hx
  glob := h.glob
  keep := ⟨hb.os.trans h.keep.1, hb.output.trans h.keep.2⟩
  tys b t ht := by simp [empty] at ht

/-- A call that gives a plain value and writes to no old memory. -/
theorem ACalls.ofE {E : Env} {f : FuncId} {args : List AVal} {v : Value}
    (h : ∀ ι H w (args' : List Value), Rel E ι H empty w → LRel 0 ι H args args' → Calls E.P f args'.toArray w fun e w' => e = .returned v ∧ Keeps w w') :
    ACalls E f args empty fun e _ => e = .ret (.sc v) := by
  intro ι H w args' hR ha
  refine (h ι H w args' hR ha).mono ?_
  rintro e w' ⟨rfl, hb⟩
  exact ⟨ι, H, empty, _, rfl, .ret _ _ (.sc v), hR.below hb, Ext.refl _ _ _⟩

theorem FOk.hand {E : Env} {F : FTab} (hF : FOk E F) {f : FuncId} {args : List AVal} {v : Value} (hs : sfvs args = true)
    (h : ACalls E f args empty fun e _ => e = .ret (.sc v)) : FOk E (F.memo [⟨f, args, [.ret (.sc v)]⟩]) := by
  refine ⟨hF.fn, ?_, hF.glob, hF.ctrT⟩
  intro g args1 ends hc σ
  simp only [FTab.memo] at hc
  split at hc
  · rename_i es he
    cases hc
    have := findM_some he
    simp at this
    obtain ⟨rfl, rfl, rfl⟩ := this
    refine (ACalls.pure hF.glob (sfvs_wf hs) h (N := 100) (fun e σ0 he => ⟨.ret (.sc v), by subst he; rfl⟩) σ).mono ?_
    rintro e σ' ⟨h1, e0, σ0, rfl, h3⟩
    refine ⟨h1, ?_⟩
    have h4 : frzE σ0 100 (.ret (.sc v)) = some (.ret (.sc v)) := rfl
    rw [h3] at h4
    cases h4
    simp
  · exact hF.ctr g args1 ends hc σ

theorem FOk.handT {E : Env} {F : FTab} (hF : FOk E F) {f : FuncId} {args : List AVal} {v : Value}
    (h : ACalls E f args empty fun e _ => e = .ret (.sc v)) : FOk E (F.memoT [⟨f, args, [.ret (.sc v)]⟩]) := by
  refine ⟨hF.fn, hF.ctr, hF.glob, ?_⟩
  intro g args0 ends hc σ bs M args1 hz
  simp only [FTab.memoT] at hc
  split at hc
  · rename_i es he
    cases hc
    have := findM_some he
    simp at this
    obtain ⟨rfl, rfl, rfl⟩ := this
    refine (ACalls.pureT hF.glob h (N := 100) (fun e σ0 he => ⟨.ret (.sc v), by subst he; rfl, by subst he; rfl⟩) σ hz).mono ?_
    rintro e σ' ⟨h1, e0, σ0, rfl, h3⟩
    refine ⟨h1, ?_⟩
    have h4 : frzE σ0 100 (.ret (.sc v)) = some (.ret (.sc v)) := rfl
    rw [h3] at h4
    cases h4
    simp
  · exact hF.ctrT g args0 ends hc σ bs M args1 hz

/-- A list of texts that no one writes, and a text. -/
theorem strs_inv {ι : Inj} {H : Imm} {w : World} {E : Env} (hR : Rel E ι H empty w) {t : Bool} {xs : List ByteArray} {sep : ByteArray} {args' : List Value}
    (h : LRel 0 ι H [.data 1 t (xs.map fun x => .sc (.string x)), .sc (.string sep)] args') :
    ∃ b o cap, args' = [.slice (some ⟨b, o, none⟩) xs.length cap, .string sep] ∧ xs.length ≤ cap ∧ (xs ≠ [] → b < w.heap.size) ∧ ∀ (j : Nat) x, xs[j]? = some x → w.cell? ⟨b, o + j, none⟩ = some (.string x) := by
  cases h with
  | cons _ y _ ys hy hys =>
    cases hys with
    | cons _ z _ zs hz hzs =>
      cases hzs
      obtain rfl := hz.sc_inv
      cases hy with
      | data sz tt els b o len cap hlen hl ht hd =>
        have hlen' : len = xs.length := by simpa using hlen
        subst hlen'
        have hcell : ∀ (o : Nat) v, H.cell? b o = some v → w.cell? ⟨b, o, none⟩ = some v := by
          intro o v hv
          unfold Imm.cell? at hv
          split at hv
          · rename_i c e f hb
            have := hR.imm b _ hb
            simp only [World.cell?]
            simp [this, hv]
          · cases hv
        have key : ∀ (xs : List ByteArray) (o : Nat), DRel 0 ι H (H.cell? b) 1 (xs.map fun x => .sc (.string x)) o → ∀ (j : Nat) x, xs[j]? = some x → H.cell? b (o + j) = some (.string x) := by
          intro xs
          induction xs with
          | nil => intro o _ j x hx; simp at hx
          | cons x0 xs ih =>
            intro o hd j x hx
            cases hd with
            | one _ _ w0 _ _ hv hg h0 hs =>
              obtain rfl := h0.sc_inv
              cases j with
              | zero => simp at hx; subst hx; exact hg
              | succ j =>
                have := ih (o + 1) hs j x (by simpa using hx)
                rw [show o + (j + 1) = o + 1 + j by omega]; exact this
        refine ⟨b, o, cap, rfl, hl, ?_, fun j x hx => hcell _ _ (key xs o hd j x hx)⟩
        intro hne
        cases xs with
        | nil => exact absurd rfl hne
        | cons x0 xs =>
          have := key (x0 :: xs) o hd 0 x0 rfl
          unfold Imm.cell? at this
          split at this
          · rename_i c e f hb
            have := hR.imm b _ hb
            rcases Nat.lt_or_ge b w.heap.size with hh | hh
            · exact hh
            · rw [Array.getElem?_eq_none hh] at this; cases this
          · cases this

/-! ### Tables that are asked for some functions alone -/
def FTab.gate (F F0 : FTab) (mask : Nat) : FTab := ⟨F0.fn, fun f args => match mask.testBit f with
  | true => F.ctr f args
  | false => F0.ctr f args, F0.pure, F0.fz, F0.tz, fun f args => match mask.testBit f with
  | true => F.ctrT f args
  | false => F0.ctrT f args⟩
theorem FOk.gate {E : Env} {F F0 : FTab} (h : FOk E F) (h0 : FOk E F0) (mask : Nat) : FOk E (F.gate F0 mask) := by
  refine ⟨h0.fn, ?_, h0.glob, ?_⟩
  · intro f args ends hc
    simp only [FTab.gate] at hc
    split at hc
    · exact h.ctr f args ends hc
    · exact h0.ctr f args ends hc
  · intro f args ends hc
    simp only [FTab.gate] at hc
    split at hc
    · exact h.ctrT f args ends hc
    · exact h0.ctrT f args ends hc
theorem FOk.memoG {E : Env} {F G : FTab} (hrd : E.rd = none) (hF : FOk E F) (hG : FOk E G) {n : Nat} {m : Mem} (h : memOk E G n m = true) : FOk E (F.memo [m]) := by
  refine ⟨hF.fn, ?_, hF.glob, hF.ctrT⟩
  intro f args ends hc σ
  simp only [FTab.memo] at hc
  split at hc
  · rename_i es he
    cases hc
    have := findM_some he
    simp at this
    subst this
    exact memOk_sound hrd hG h σ
  · exact hF.ctr f args ends hc σ
theorem FOk.memoTG {E : Env} {F G : FTab} (hrd : E.rd = none) (hF : FOk E F) (hG : FOk E G) {n : Nat} {m : Mem} (h : memOkT E G n m = true) : FOk E (F.memoT [m]) := by
  have hM := FOk.memoT hrd hG h
  refine ⟨hF.fn, hF.ctr, hF.glob, ?_⟩
  intro f args ends hc σ bs M args1 hz
  simp only [FTab.memoT] at hc
  split at hc
  · rename_i es he
    cases hc
    have hm := findM_some he
    simp at hm
    subst hm
    refine hM.ctrT f args ends ?_ σ bs M args1 hz
    simp only [FTab.memoT, he]
  · exact hF.ctrT f args ends hc σ bs M args1 hz

/-- What is known of one function's calls. -/
def FTab.forF (F : FTab) (f0 : Nat) (l lT : List Mem) : FTab := ⟨F.fn, fun f args => match Nat.beq f f0 with
  | true => (match findM f args l with
    | some es => some es
    | none => F.ctr f args)
  | false => F.ctr f args, F.pure, F.fz, F.tz, fun f args => match Nat.beq f f0 with
  | true => (match findM f args lT with
    | some es => some es
    | none => F.ctrT f args)
  | false => F.ctrT f args⟩
def ValidM (E : Env) (m : Mem) : Prop := ∀ σ, ACalls E m.f m.args σ fun e σ' => σ' = σ ∧ e ∈ m.ends
def ValidMT (E : Env) (m : Mem) : Prop := ∀ σ bs M args1, mapO (frz (AStore.only σ bs) M) args1 = some m.args → ACalls E m.f args1 σ fun e σ' => σ' = σ ∧ e ∈ m.ends
theorem ValidM.of {E : Env} {F : FTab} (h : FOk E F) {m : Mem} (hm : F.ctr m.f m.args = some m.ends) : ValidM E m := fun σ => h.ctr _ _ _ hm σ
theorem ValidMT.of {E : Env} {F : FTab} (h : FOk E F) {m : Mem} (hm : F.ctrT m.f m.args = some m.ends) : ValidMT E m := fun σ bs M args1 hz => h.ctrT _ _ _ hm σ bs M args1 hz
def AllM (E : Env) : List Mem → Prop
  | [] => True
  | m :: ms => ValidM E m ∧ AllM E ms
def AllMT (E : Env) : List Mem → Prop
  | [] => True
  | m :: ms => ValidMT E m ∧ AllMT E ms
theorem AllM.mem {E : Env} : ∀ {l : List Mem}, AllM E l → ∀ m ∈ l, ValidM E m
  | [], _, _, h => by cases h
  | x :: l, h, m, hm => by
      rcases List.mem_cons.1 hm with rfl | hm
      · exact h.1
      · exact AllM.mem h.2 m hm
theorem AllMT.mem {E : Env} : ∀ {l : List Mem}, AllMT E l → ∀ m ∈ l, ValidMT E m
  | [], _, _, h => by cases h
  | x :: l, h, m, hm => by
      rcases List.mem_cons.1 hm with rfl | hm
      · exact h.1
      · exact AllMT.mem h.2 m hm
theorem FOk.forF {E : Env} {F : FTab} (h : FOk E F) {f0 : Nat} {l lT : List Mem} (hl : AllM E l) (hT : AllMT E lT) : FOk E (F.forF f0 l lT) := by
  refine ⟨h.fn, ?_, h.glob, ?_⟩
  · intro f args ends hc σ
    simp only [FTab.forF] at hc
    split at hc
    · split at hc
      · rename_i es he
        cases hc
        exact hl.mem _ (findM_some he) σ
      · exact h.ctr f args ends hc σ
    · exact h.ctr f args ends hc σ
  · intro f args ends hc σ bs M args1 hz
    simp only [FTab.forF] at hc
    split at hc
    · split at hc
      · rename_i es he
        cases hc
        exact hT.mem _ (findM_some he) σ bs M args1 hz
      · exact h.ctrT f args ends hc σ bs M args1 hz
    · exact h.ctrT f args ends hc σ bs M args1 hz
end Abs
end
