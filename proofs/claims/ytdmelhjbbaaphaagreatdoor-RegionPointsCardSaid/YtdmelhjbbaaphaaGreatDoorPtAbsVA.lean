/-
  Part of the abstract layer (VA): values, stores and steps that stand for those of the model, and the proof that they do. It proves no statement by itself.
-/
import Derived.Test.YtdmelhjbbaaphaaGreatDoorPtAbsV9
noncomputable section
namespace Abs
set_option linter.unusedVariables false
set_option linter.unusedSimpArgs false
set_option linter.unusedSectionVars false
open Go
inductive DA where
 | fin
 | stop
 | br (i : Nat) (t : DA) (u : DA)
def okA (E : Env) (ops : Array Oper) (anc : List (Nat × Nat)) : DA → List (Nat × List Nat) → Bool
 | .br i t u, ps => match ps with
  | p :: ps => Nat.beq p.1 i && (match p.2 with
   | [] => (match t with
    | .fin => true
    | _ => false)
   | j :: s => okA E ops anc t (Fr.alts E ops anc (j :: s))) && okA E ops anc u ps
  | [] => false
 | .stop, ps => match ps with
  | [] => true
  | _ :: _ => false
 | .fin, _ => false
def vA (E : Env) (ops : Array Oper) (anc : List (Nat × Nat)) (K : SPred) : DA → List SRec → Ev → Bool → AStore → Prop
 | .fin, _, e, _, σ => K .normal e σ
 | .stop, _, _, _, _ => True
 | .br i t u, recs, e, q, σ => vSt E ops anc K i (vA E ops anc K t) recs e q σ ∧ vA E ops anc K u recs e q σ
section
variable {E : Env} {n : Nat}
theorem vA_anti {ops : Array Oper} {anc : List (Nat × Nat)} {K : SPred} : ∀ t : DA, Anti (vA E ops anc K t)
 | .fin => fun _ _ _ _ _ _ h => h
 | .stop => fun _ _ _ _ _ _ _ => trivial
 | .br i t u => fun recs recs' e q σ hs h => ⟨vSt_anti (vA_anti t) recs recs' e q σ hs h.1, vA_anti u recs recs' e q σ hs h.2⟩
theorem vA_sound {ops : Array Oper} {anc : List (Nat × Nat)} {K : SPred} {a0 : AAct} (h0 : (actOf n []).Le a0) (hfit : ∀ (i : Nat) (o : Oper), ops[i]? = some o → fitN n o.dst = true) :
    ∀ (t : DA) (m : Nat) (ps : List (Nat × List Nat)) (recs : List SRec) (e : Ev) (q : Bool) (σ : AStore), (∀ p ∈ ps, p.2.length ≤ m) → okA E ops anc t ps = true → okE e → (∀ r ∈ recs, okE r.e) → (q = true → ∀ r ∈ recs, sHolds E r σ) → vA E ops anc K t recs e q σ →
      ∀ p ∈ ps, Fr.aSt E ops anc (liftS n K) a0 p.1 (Fr.aDrs E ops anc (liftS n K) a0 m p.2) (recs.map (toRec n)) (actOf n e) σ
  | .fin, _, _, _, _, _, _, _, ht, _, _, _, _ => by cases ht
  | .stop, m, ps, recs, e, q, σ, hm, ht, he, hro, hq, h => by
      cases ps with
      | nil => simp
      | cons p ps => cases ht
  | .br i t u, m, ps, recs, e, q, σ, hm, ht, he, hro, hq, h => by
      cases ps with
      | nil => cases ht
      | cons p ps =>
        unfold okA at ht
        rw [Bool.and_eq_true, Bool.and_eq_true] at ht
        obtain ⟨⟨t1, t2⟩, t3⟩ := ht
        have hp := hm p (by simp)
        intro p' hp'
        simp only [List.mem_cons] at hp'
        rcases hp' with rfl | hp'
        · obtain rfl := Nat.eq_of_beq_eq_true t1
          refine vSt_sound h0 hfit (vA_anti t) (fun recs e q σ he hro hq hh => ?_) he hro hq h.1
          cases hs : p'.2 with
          | nil =>
            rw [hs] at t2
            cases t with
            | fin => cases m <;> exact ⟨e, he, AAct.Le.refl _, hh⟩
            | stop => cases t2
            | br _ _ _ => cases t2
          | cons j s =>
            rw [hs] at t2 hp
            cases m with
            | zero => simp at hp
            | succ m =>
              refine vA_sound h0 hfit t m (Fr.alts E ops anc (j :: s)) recs e q σ ?_ t2 he hro hq hh
              intro p2 hp2
              have hlen := Fr.alts_len (E := E) (ops := ops) (anc := anc) (s := j :: s) p2 hp2
              simp at hlen hp; omega
        · exact vA_sound h0 hfit u m ps recs e q σ (fun p hp => hm p (by simp [hp])) t3 he hro hq h.2 p' hp'
theorem Z_drawA {id : Nat} {ops : Array Oper} (hm : E.P.follows .mixedOrders = true) (i0 : Nat) (s0 : List Nat) (anc : List (Nat × Nat)) (t : DA) (h1 : Fr.drawOkF ops (i0 :: s0) = true) (h2 : ancs ops (i0 :: s0) [] = anc) (h3 : okA E ops anc t (Fr.alts E ops anc (i0 :: s0)) = true)
  {Q : SPred} {e : Ev} {σ : AStore} (h : vA E ops anc Q t [] e true σ) : Z E n (.region id ops true) Q e σ := by
 intro hf he
 subst h2
 have hf : fitOps n ops.toList = true := hf
 have hfit : ∀ (i : Nat) (o : Oper), ops[i]? = some o → fitN n o.dst = true := by
  intro i o ho
  unfold fitOps at hf
  rw [List.all_eq_true] at hf
  exact hf o (by have := Array.mem_of_getElem? ho; simpa using this)
 refine Fr.region_drawF hm (n := s0.length + 1) h1 ?_ (vA_sound (nil_le _ _ he hf) hfit t s0.length _ [] e true σ ?_ h3 he (by simp) (by simp) h)
 ·unfold fitsAll
  unfold fitOps at hf
  rw [List.all_eq_true] at hf ⊢
  intro o ho
  rw [fits_actOf]
  exact hf o ho
 ·intro p hp
  have hlen := Fr.alts_len (E := E) (ops := ops) (anc := ancs ops (i0 :: s0) []) (s := i0 :: s0) p hp
  simp at hlen; omega
end
section
variable {E : Env} {ops : Array Oper} {anc : List (Nat × Nat)} {K : SPred} {recs : List SRec} {e : Ev} {q : Bool} {σ : AStore}
theorem vA_fin : vA E ops anc K .fin recs e q σ = K .normal e σ := rfl
theorem vA_last {i : Nat} {t : DA} : vA E ops anc K (.br i t .stop) recs e q σ = vSt E ops anc K i (vA E ops anc K t) recs e q σ := by
 show (_ ∧ True) = _
 rw [and_true]
theorem vA_br {i j : Nat} {t t' u : DA} : vA E ops anc K (.br i t (.br j t' u)) recs e q σ = (vSt E ops anc K i (vA E ops anc K t) recs e q σ ∧ vA E ops anc K (.br j t' u) recs e q σ) := rfl
end
attribute [go_sem ↓] vA_fin vA_last vA_br
end Abs
end
