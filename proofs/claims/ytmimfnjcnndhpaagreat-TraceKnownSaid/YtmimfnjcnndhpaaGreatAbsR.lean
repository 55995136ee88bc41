/-
  Part of the abstract layer (R): values, stores and steps that stand for those of the model, and the proof that they do. It proves no statement by itself.
-/
import Derived.Test.YtmimfnjcnndhpaaGreatAbsQ
noncomputable section
namespace Abs
set_option linter.unusedVariables false
set_option linter.unusedSimpArgs false
set_option linter.unusedSectionVars false
open Go

/-! ### A region whose order is drawn -/

theorem allSome_congr {ρ ρ' : ARho} : ∀ {xs : List Operand}, (∀ x ∈ xs, ρ x = ρ' x) → allSome ρ xs = allSome ρ' xs
  | [], _ => rfl
  | x :: xs, h => by
      unfold allSome
      rw [h x (by simp), allSome_congr (fun y hy => h y (by simp [hy]))]

theorem partsSome_congr {ρ ρ' : ARho} : ∀ {xs : List (Nat × Operand)}, (∀ x ∈ xs.map (·.2), ρ x = ρ' x) → partsSome ρ xs = partsSome ρ' xs
  | [], _ => rfl
  | (i, x) :: xs, h => by
      unfold partsSome
      rw [h x (by simp), partsSome_congr (fun y hy => h y (by simp at hy ⊢; exact .inr hy))]

theorem optSome_congr {ρ ρ' : ARho} {x : Option Operand} (h : ∀ y ∈ x.toArray.toList, ρ y = ρ' y) : optSome ρ x = optSome ρ' x := by
  cases x with
  | none => rfl
  | some x => simp only [optSome]; rw [h x (by simp)]

theorem aOp_congr (E : Env) (lit : Bool) (op : Op) (σ : AStore) {ρ ρ' : ARho} (h : ∀ x ∈ op.operands.toList, ρ x = ρ' x) : aOp E lit op ρ σ = aOp E lit op ρ' σ := by
  cases op <;> simp only [Op.operands] at h
  case move x => simp only [aOp]; rw [h x (by simp)]
  case assign x => simp only [aOp]; rw [h x (by simp)]
  case pick c a b => simp only [aOp]; rw [h c (by simp), h a (by simp), h b (by simp)]
  case box t x => simp only [aOp]; rw [h x (by simp)]
  case build t ps => simp only [aOp]; rw [partsSome_congr (by simpa using h)]
  case buildSlice t n ps => simp only [aOp]; rw [partsSome_congr (by simpa using h)]
  case load t x => simp only [aOp]; rw [h x (by simp)]
  case store t a v => simp only [aOp]; rw [h a (by simp), h v (by simp)]
  case nilCheck x => simp only [aOp]; rw [h x (by simp)]
  case binOp op t a v t2 => simp only [aOp]; rw [h a (by simp), h v (by simp)]
  case unOp op t x => simp only [aOp]; rw [h x (by simp)]
  case convert s d x => simp only [aOp]; rw [h x (by simp)]
  case makeInterface t x => simp only [aOp]; rw [h x (by simp)]
  case makeFunc fn f c => simp only [aOp]; rw [allSome_congr (fun x hx => h x (by simp at hx ⊢; exact .inl hx)), allSome_congr (fun x hx => h x (by simp at hx ⊢; exact .inr hx))]
  case makeMap t r => cases r <;> simp only [aOp]; rw [h _ (by simp)]
  case makeSlice t a v => simp only [aOp]; rw [h a (by simp), h v (by simp)]
  case slice t x l hi m =>
    cases m with
    | some m =>
      simp only [aOp]
      rw [h x (by simp), optSome_congr (x := l) (fun y hy => h y (by simp at hy ⊢; exact .inr (.inl hy))), optSome_congr (x := hi) (fun y hy => h y (by simp at hy ⊢; exact .inr (.inr (.inl hy)))),
        optSome_congr (x := some m) (fun y hy => h y (by simp at hy ⊢; exact .inr (.inr (.inr hy))))]
    | none =>
      simp only [aOp]
      rw [h x (by simp), optSome_congr (x := l) (fun y hy => h y (by simp at hy ⊢; exact .inr (.inl hy))), optSome_congr (x := hi) (fun y hy => h y (by simp at hy ⊢; exact .inr (.inr hy)))]
  case fieldAddr t x f => simp only [aOp]; rw [h x (by simp)]
  case field t x f => simp only [aOp]; rw [h x (by simp)]
  case indexAddr t a v => simp only [aOp]; rw [h a (by simp), h v (by simp)]
  case index t a v => simp only [aOp]; rw [h a (by simp), h v (by simp)]
  case lookup t a v ok => simp only [aOp]; rw [h a (by simp), h v (by simp)]
  case mapUpdate t m k v => simp only [aOp]; rw [h m (by simp), h k (by simp), h v (by simp)]
  case insert t m k v => simp only [aOp]; rw [h m (by simp), h k (by simp), h v (by simp)]
  case range t x => simp only [aOp]; rw [h x (by simp)]
  case next x s => simp only [aOp]; rw [h x (by simp)]
  case entry x => simp only [aOp]; rw [h x (by simp)]
  case typeAssert x t a ok => simp only [aOp]; rw [h x (by simp)]
  case extract x i => simp only [aOp]; rw [h x (by simp)]
  case panic x => simp only [aOp]; rw [h x (by simp)]
  case call c =>
    obtain ⟨callee, args, ats⟩ := c
    simp only [Call.operands] at h
    simp only [aOp]
    rw [allSome_congr (xs := args.toList) (fun x hx => h x (by simp at hx ⊢; exact .inr hx))]
    cases callee with
    | value f => simp only []; rw [h f (by simp)]
    | _ => rfl
  case defer c =>
    obtain ⟨callee, args, ats⟩ := c
    simp only [Call.operands] at h
    simp only [aOp]
    rw [allSome_congr (xs := args.toList) (fun x hx => h x (by simp at hx ⊢; exact .inr hx))]
    cases callee with
    | value f => simp only []; rw [h f (by simp)]
    | _ => rfl
  all_goals rfl

/-- May it turn the store? -/
def isEff (E : Env) : Op → Bool
  | .move _ | .assign _ | .pick .. | .build .. | .buildSlice .. | .load .. | .nilCheck _ | .binOp .. | .unOp .. | .makeInterface .. | .makeFunc .. | .fieldAddr .. | .field ..
  | .indexAddr .. | .index .. | .lookup .. | .entry _ | .typeAssert .. | .extract .. => false
  | .slice t _ _ _ _ => match E.ty t with
    | some i => match i.desc with | .pointer _ | .array _ _ => true | _ => false
    | none => true
  | .convert _ d _ => match E.ty d with
    | some i => match i.desc with | .slice _ => true | _ => false
    | none => true
  | .call { callee := .builtin .len, .. } | .call { callee := .builtin .max, .. } | .call { callee := .builtin .min, .. } => false
  | _ => true

def aRead (E : Env) (op : Op) (ρ : ARho) (σ : AStore) : Option AVal :=
  match aOp E true op ρ σ with
  | .val v _ => some v
  | _ => none

theorem ofV_val {σ σ' : AStore} {o : Option AVal} {v : AVal} (h : ARes.ofV σ o = .val v σ') : σ' = σ := by
  cases o with
  | none => cases h
  | some x => cases h; rfl

theorem aToU_same {ty : Nat → Option TyI} {t : TypeId} {x v : AVal} {σ σ' : AStore} (h : aToU ty t x σ = some (v, σ')) : σ' = σ := by
  unfold aToU at h
  split at h
  · cases h; rfl
  · split at h
    · split at h
      · cases h; rfl
      · cases h
    · cases h
  · cases h
theorem aFromU_same {ty : Nat → Option TyI} {t : TypeId} {x v : AVal} {σ σ' : AStore} (h : aFromU ty t x σ = some (v, σ')) : σ' = σ := by
  unfold aFromU at h
  split at h
  · cases h; rfl
  · split at h
    · split at h
      · cases h; rfl
      · cases h
    · cases h
  · cases h

theorem aOp_read {E : Env} {op : Op} {ρ : ARho} {σ σ' : AStore} {v : AVal} (he : isEff E op = false) (h : aOp E true op ρ σ = .val v σ') : σ' = σ := by
  cases op <;> simp only [isEff] at he <;> try (cases he; done)
  case move x => exact ofV_val h
  case assign x => exact ofV_val h
  case pick c a b => simp only [aOp] at h; split at h <;> first | exact ofV_val h | cases h
  case build t ps =>
    simp only [aOp] at h
    split at h
    · split at h
      · exact ofV_val h
      · split at h <;> first | exact ofV_val h | cases h
      · cases h
    · cases h
  case buildSlice t n ps => simp only [aOp] at h; split at h <;> first | exact ofV_val h | cases h
  case load t x => simp only [aOp] at h; split at h <;> first | exact ofV_val h | cases h
  case nilCheck x => simp only [aOp] at h; split at h <;> (cases h <;> rfl)
  case binOp op t a b t2 => simp only [aOp] at h; split at h <;> first | exact ofV_val h | cases h
  case unOp op t x => simp only [aOp] at h; split at h <;> first | exact ofV_val h | cases h
  case convert s d x =>
    simp only [aOp] at h
    split at h
    · rename_i i j a hi hj ha
      simp only [hj] at he
      split at he
      · cases he
      · rename_i hns
        cases hc : aConv E.ty i.desc j.desc a σ with
        | none => rw [hc] at h; cases h
        | some p =>
          obtain ⟨p1, p2⟩ := p
          rw [hc] at h
          cases h
          unfold aConv at hc
          split at hc
          · cases hc; rfl
          · split at hc <;> cases hc; rfl
          · rename_i hd; exact absurd hd (hns _)
          · split at hc
            · split at hc
              · split at hc
                · split at hc
                  · rename_i els _
                    cases hu : unbytes els with
                    | none => rw [hu] at hc; cases hc
                    | some ns => rw [hu] at hc; cases hc; rfl
                  · cases hc
                · cases hc
              · cases hc
            · cases hc
          · split at hc
            · exact aToU_same hc
            · cases hc
          · split at hc
            · exact aFromU_same hc
            · cases hc
          · cases hc
    · cases h
  case makeInterface t x => simp only [aOp] at h; split at h <;> first | exact ofV_val h | cases h
  case makeFunc fn f c => simp only [aOp] at h; split at h <;> (cases h <;> rfl)
  case slice t x l hi m =>
    cases m with
    | some m =>
      simp only [aOp] at h
      split at h
      · split at h
        · split at h <;> first | exact ofV_val h | cases h
        · cases h
      · cases h
    | none =>
      simp only [aOp] at h
      split at h
      · rename_i i a l h' hi1 _ _ _
        simp only [hi1] at he
        split at h
        · exact ofV_val h
        · split at h <;> first | exact ofV_val h | cases h
        · rename_i hd
          simp only [hd] at he
          cases he
        · rename_i hd
          simp only [hd] at he
          cases he
        · cases h
      · cases h
  case fieldAddr t x f => simp only [aOp] at h; split at h <;> first | (split at h <;> first | exact ofV_val h | cases h) | cases h
  case field t x f => simp only [aOp] at h; split at h <;> first | exact ofV_val h | cases h
  case indexAddr t a i => simp only [aOp] at h; split at h <;> first | (split at h <;> first | exact ofV_val h | (split at h <;> first | exact ofV_val h | cases h)) | cases h
  case index t a i => simp only [aOp] at h; split at h <;> first | (split at h <;> first | exact ofV_val h | (split at h <;> first | (split at h <;> first | exact ofV_val h | cases h) | cases h)) | cases h
  case lookup t a i ok => simp only [aOp] at h; split at h <;> first | exact ofV_val h | cases h
  case entry x => simp only [aOp] at h; split at h <;> first | exact ofV_val h | cases h
  case typeAssert x t a ok => simp only [aOp] at h; split at h <;> first | exact ofV_val h | cases h
  case extract x i => simp only [aOp] at h; split at h <;> first | exact ofV_val h | cases h
  case call c =>
    obtain ⟨callee, args, ats⟩ := c
    simp only [aOp] at h
    split at h
    · cases callee with
      | builtin b =>
        simp only [] at h
        cases b <;> simp only at he <;> try (cases he; done)
        all_goals
          unfold aBuiltin at h
          split at h <;> first
            | (rename_i hb _ _; cases hb; done)
            | (rename_i hb; cases hb; done)
            | exact ofV_val h
            | (split at h <;> first | exact ofV_val h | cases h)
            | cases h
            | skip
      | value f => simp at he
      | invoke r m => simp at he
    · cases h

theorem aRead_some {E : Env} {op : Op} {ρ : ARho} {σ : AStore} {v : AVal} (he : isEff E op = false) (h : aRead E op ρ σ = some v) : aOp E true op ρ σ = .val v σ := by
  unfold aRead at h
  split at h
  · rename_i v' σ' hv
    cases h
    rw [hv, aOp_read he hv]
  · cases h
end Abs
