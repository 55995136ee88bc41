/-
  Part of the abstract layer (En): values, stores and steps that stand for those of the model, and the proof that they do. It proves no statement by itself.
-/
import Derived.Test.YtdmelhjbbaaphaaGreatDoorPtAbsRow
import Derived.Test.YtdmelhjbbaaphaaGreatDoorPtAbsW1
noncomputable section
namespace Abs
set_option linter.unusedVariables false
set_option linter.unusedSimpArgs false
set_option linter.unusedSectionVars false
open Go
def in64 (n : Int) : Prop := -9223372036854775808 ≤ n ∧ n < 9223372036854775808
abbrev SL (α : Type) := (Option Addr × Nat) × List α
def encS {α : Type} (sz : Nat) (f : α → AVal) (s : SL α) : AVal :=
 match s.2 with
 | [] => .sc (.slice s.1.1 0 s.1.2)
 | x :: xs => .data sz false ((x :: xs).map f)
theorem encS_isD {α : Type} (sz : Nat) (f : α → AVal) (s : SL α) : IsD sz (encS sz f s) (s.2.map f) := by
 obtain ⟨h, l⟩ := s
 cases l with
 | nil => exact .inl ⟨rfl, _, _, rfl⟩
 | cons x xs => exact .inr ⟨_, rfl⟩
section
variable {P : Program}
theorem ty_int {n t : Nat} {vs : List AVal} (hs : shape P t = .int .i64) (h : HasTy P n t vs) : ∃ m, in64 m ∧ vs = [.sc (.int .i64 m)] := by
 cases n with
 | zero => exact h.elim
 | succ n =>
  unfold HasTy at h
  rw [hs] at h
  obtain ⟨m, hw, h⟩ := h
  refine ⟨m, ?_, h⟩
  have : (Lit.int .i64 m).wf = true := hw
  simp [Lit.wf, IntKind.min, IntKind.max, IntKind.signed, IntKind.bits] at this
  exact ⟨by omega, by omega⟩
theorem ty_bool {n t : Nat} {vs : List AVal} (hs : shape P t = .bool) (h : HasTy P n t vs) : ∃ b, vs = [.sc (.bool b)] := by
 cases n with
 | zero => exact h.elim
 | succ n =>
  unfold HasTy at h
  rw [hs] at h
  exact h
theorem ty_slice {α : Type} {f : α → AVal} {n t e c : Nat} {agg : Bool} {vs : List AVal} (hs : shape P t = .slice e c agg) (h : HasTy P n t vs)
  (hf : ∀ m y, HasTy P m e y.cells → y.cells.length = c → y.isAgg = agg → ∃ a, y = f a) : ∃ s : SL α, vs = [encS c f s] ∧ s.2.length ≤ maxLen := by
 cases n with
 | zero => exact h.elim
 | succ n =>
  unfold HasTy at h
  rw [hs] at h
  rcases h with h | ⟨a, cap, h⟩ | ⟨els, hne, hlen, h, hels⟩
  ·exact ⟨((none, 0), []), h, Nat.zero_le _⟩
  ·exact ⟨((some a, cap), []), h, Nat.zero_le _⟩
  ·have : ∀ l : List AVal, (∀ x ∈ l, HasTy P n e x.cells ∧ x.cells.length = c ∧ x.isAgg = agg) → ∃ l' : List α, l = l'.map f := by
    intro l
    induction l with
    | nil => intro _; exact ⟨[], rfl⟩
    | cons x l ih =>
     intro hh
     obtain ⟨a, rfl⟩ := hf n x (hh x (by simp)).1 (hh x (by simp)).2.1 (hh x (by simp)).2.2
     obtain ⟨l', rfl⟩ := ih fun y hy => hh y (by simp [hy])
     exact ⟨a :: l', rfl⟩
   obtain ⟨l', rfl⟩ := this els hels
   refine ⟨((none, 0), l'), ?_, by simpa using hlen⟩
   cases l' with
   | nil => simp at hne
   | cons a l' => exact h
theorem ty_struct {n t : Nat} {ts : List TypeId} {vs : List AVal} (hs : shape P t = .struct ts) (h : HasTy P n t vs) : ∃ m, HasL (HasTy P m) P ts vs := by
 cases n with
 | zero => exact h.elim
 | succ n =>
  unfold HasTy at h
  rw [hs] at h
  exact ⟨n, h⟩
theorem agg_of {x : AVal} {vs : List AVal} (ha : x.isAgg = true) (h : x.cells = vs) : x = .agg vs := by
 cases x <;> first | cases ha; done | (rw [← h]; rfl)
theorem one_of {x v : AVal} (ha : x.isAgg = false) (h : x.cells = [v]) : x = v := by
 rw [AVal.cells_one ha] at h
 simpa using h
end
end Abs
end
