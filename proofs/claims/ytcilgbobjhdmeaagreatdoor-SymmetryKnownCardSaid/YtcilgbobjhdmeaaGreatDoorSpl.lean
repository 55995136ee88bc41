/-
  A long run of the executor in two parts. It proves no statement by itself.
-/
import Derived.Test.YtcilgbobjhdmeaaGreatDoorAbsG19
namespace Abs
open Go

/-! ### A long run in two parts -/
def codes : List Code → Code → Code
  | [], y => y
  | x :: xs, y => .seq x (codes xs y)
def unseq : Nat → Code → List Code × Code
  | k + 1, .seq x y => (x :: (unseq k y).1, (unseq k y).2)
  | _, c => ([], c)
theorem unseq_eq : ∀ (k : Nat) (c : Code), codes (unseq k c).1 (unseq k c).2 = c
  | 0, c => by cases c <;> rfl
  | k + 1, c => by
      cases c with
      | seq x y => simp only [unseq, codes, unseq_eq k y]
      | _ => rfl

noncomputable def xPre (E : Env) (F : FTab) (n : Nat) : List Code → AAct → AStore → Option (AAct × AStore)
  | [], a, σ => some (a, σ)
  | x :: xs, a, σ => match xCode E F n none x a σ with
    | some [(.normal, a1, σ1)] => xPre E F n xs a1 σ1
    | _ => none
/-- The first k parts of a function's code; the rest. -/
noncomputable def runPre (E : Env) (F : FTab) (n k : Nat) (f : FuncId) (args : List AVal) : Option (AAct × AStore) :=
  match F.fn f with
  | some fn => match fn.body with
    | some c => match Nat.ble args.length fn.ntmps && Nat.blt args.length 1000 with
      | true => xPre E F n (unseq k c).1 (aInit args fn.ntmps) empty
      | false => none
    | none => none
  | none => none
noncomputable def runPost (E : Env) (F : FTab) (n k : Nat) (f : FuncId) (a : AAct) (σ : AStore) : Option (List OutE) :=
  match F.fn f with
  | some fn => match fn.body with
    | some c => thenE (xCode E F n none (unseq k c).2 a σ) (xFin E (xDCall E F n) fn)
    | none => none
  | none => none
noncomputable def postOk (E : Env) (F : FTab) (n k : Nat) (m : Mem) (a : AAct) (σ : AStore) : Bool :=
  match xEndsO (runPost E F n k m.f a σ) with
  | some es => eqEs es m.ends
  | none => false
section
variable {E : Env} {F : FTab}
theorem x_at (hrd : E.rd = none) (hF : FOk E F) {n : Nat} {c : Code} {a : AAct} {σ : AStore} {outs : List Out} {Q : APred} (h : xCode E F n none c a σ = some outs) (hQ : ∀ o ∈ outs, Q o.1 o.2.1 o.2.2) : AWp E c Q a σ := by
  have hat : E.at none = E := by cases E; cases hrd; rfl
  have := (x_sound hrd hF n).1 none c a σ outs Q h hQ
  rwa [hat] at this
theorem xPre_sound (hrd : E.rd = none) (hF : FOk E F) {n : Nat} {y : Code} {Q : APred} : ∀ {xs : List Code} {a : AAct} {σ : AStore} {a' : AAct} {σ' : AStore}, xPre E F n xs a σ = some (a', σ') → AWp E y Q a' σ' → AWp E (codes xs y) Q a σ
  | [], a, σ, a', σ', h, hq => by
      simp only [xPre, Option.some.injEq, Prod.mk.injEq] at h
      obtain ⟨rfl, rfl⟩ := h
      exact hq
  | x :: xs, a, σ, a', σ', h, hq => by
      simp only [xPre] at h
      split at h
      · rename_i a1 σ1 hx
        refine AWp.seq (x_at hrd hF hx ?_)
        intro o ho
        obtain rfl := List.mem_singleton.1 ho
        exact xPre_sound hrd hF h hq
      · cases h
theorem ACalls.split (hrd : E.rd = none) (hF : FOk E F) {n k : Nat} {f : FuncId} {args : List AVal} {a : AAct} {σ : AStore} {outs : List OutE} (h1 : runPre E F n k f args = some (a, σ)) (h2 : runPost E F n k f a σ = some outs) : ACalls E f args empty fun e σ' => (e, σ') ∈ outs := by
  unfold runPre at h1
  unfold runPost at h2
  split at h1
  · rename_i fn hf
    rw [hf] at h2
    simp only [] at h2
    split at h1
    · rename_i c hb
      rw [hb] at h2
      simp only [] at h2
      split at h1
      · rename_i hlen
        simp only [Bool.and_eq_true, Nat.ble_eq, Nat.blt_eq] at hlen
        refine ACalls.of_wpD hrd (hF.fn f fn hf) hb hlen.1 hlen.2 ?_
        rw [← unseq_eq k c]
        refine xPre_sound hrd hF h1 ?_
        unfold thenE at h2
        split at h2
        · cases h2
        · rename_i os hos
          refine x_at hrd hF hos ?_
          intro o ho
          obtain ⟨ys, h3, h4⟩ := bindO_some h2 o ho
          obtain ⟨e, a1, σ1⟩ := o
          have h5 := (x_sound hrd hF n).2.2.2.2.1
          cases e with
          | normal => exact xLeave_sound h5 _ _ _ ys h3 (fun o ho => h4 o ho)
          | ret => exact xLeave_sound h5 _ _ _ ys h3 (fun o ho => h4 o ho)
          | pan v => exact xLeave_sound h5 _ _ _ ys h3 (fun o ho => h4 o ho)
          | exit id => cases h3
          | goto l => cases h3
      · cases h1
    · cases h1
  · cases h1
theorem FOk.memoTS {G : FTab} (hrd : E.rd = none) (hF : FOk E F) (hG : FOk E G) {n k : Nat} {m : Mem} {a : AAct} {σ : AStore} (h1 : runPre E G n k m.f m.args = some (a, σ)) (h2 : postOk E G n k m a σ = true) : FOk E (F.memoT [m]) := by
  refine ⟨hF.fn, hF.ctr, hF.glob, ?_⟩
  intro f args ends hc σ0 bs M args1 hz
  simp only [FTab.memoT] at hc
  split at hc
  · rename_i es he
    cases hc
    have := findM_some he
    simp at this
    subst this
    unfold postOk at h2
    split at h2
    · rename_i es' he'
      have := eqEs_eq h2
      subst this
      cases hr : runPost E G n k f a σ with
      | none => rw [hr] at he'; cases he'
      | some os =>
        rw [hr] at he'
        exact xEndsO_sound hF.glob he' (ACalls.split hrd hG h1 hr) σ0 hz
    · cases h2
  · exact hF.ctrT f args ends hc σ0 bs M args1 hz
end
end Abs
