/-
  Part of the abstract layer (Gl): values, stores and steps that stand for those of the model, and the proof that they do. It proves no statement by itself.
-/
import Derived.Test.YtcilgbobjhdmeaaGreatDoorAbsG15
import Derived.Test.YtcilgbobjhdmeaaGreatDoorAbsG16
import Derived.LaidHandle
noncomputable section
namespace Abs
set_option linter.unusedVariables false
set_option linter.unusedSimpArgs false
set_option linter.unusedSectionVars false
open Go

/-! ### Package-level variables that are known -/

def Env.ofG (P : Program) (G : Nat → AVal) (w0 : World) : Env := ⟨P, G, tyOf P, tyOf_ok P, fnsOf P, fnsOf_ok P, nesOf P, nesOf_ok P, w0, none, []⟩

theorem ftab_okG (P : Program) (G : Nat → AVal) (hG : ∀ g, WF 0 (G g)) (imp : List Nat) (w0 : World) : FOk (Env.ofG P G w0) (ftab P imp) := ⟨fun _ _ h => h, (fun _ _ _ h => by cases h), hG, (fun _ _ _ h => by cases h)⟩

theorem ftabZ_okG (P : Program) (G : Nat → AVal) (hG : ∀ g, WF 0 (G g)) (imp fz tz : List Nat) (w0 : World) : FOk (Env.ofG P G w0) (ftabZ P imp fz tz) := ⟨fun _ _ h => h, (fun _ _ _ h => by cases h), hG, (fun _ _ _ h => by cases h)⟩

theorem Rel.startG (P : Program) (G : Nat → AVal) (w : World) (hG : ∀ g, VRel 0 (fun _ => ⟨0, 0, 0, 0, 0⟩) (allH w) (G g) (.pointer (some ⟨g, 0, none⟩))) : Rel (Env.ofG P G w) (fun _ => ⟨0, 0, 0, 0, 0⟩) (allH w) empty w where
  imm c o h := by
    unfold allH at h
    cases hc : w.heap[c]? with
    | none => simp [hc] at h
    | some x => simp [hc] at h; subst h; rfl
  live b x h := by simp [AStore.fin empty b (Nat.zero_le _)] at h
  inj b b' x x' h := by simp [AStore.fin empty b (Nat.zero_le _)] at h
  glob := hG
  keep := Same.refl _
  tys b t h := by simp [empty] at h

theorem says_trueG {P : Program} {G : Nat → AVal} {f n : Nat} {F : FTab} {w : World} (hF : FOk (Env.ofG P G w) F) (hG : ∀ g, VRel 0 (fun _ => ⟨0, 0, 0, 0, 0⟩) (allH w) (G g) (.pointer (some ⟨g, 0, none⟩)))
    (h : saysTrue (xCall (Env.ofG P G w) F n f [] empty) = true) :
    Calls P f #[] w fun e w' => e = .returned (.bool true) ∧ Same w w' ∧ ∀ (c : Nat) (o : Obj), w.heap[c]? = some o → w'.heap[c]? = some o := by
  unfold saysTrue at h
  split at h
  · rename_i l hl
    have := (x_sound rfl hF n).2.2.2.1 f [] empty l hl _ _ w [] (Rel.startG P G w hG) .nil
    refine Calls.mono this ?_
    rintro e w' ⟨ι', H', σ', ae, hm, hx, hR, he⟩
    rw [List.all_eq_true] at h
    have h1 := h _ hm
    cases hx with
    | ret v v' hv =>
      split at h1
      · rename_i b hb
        cases hb
        have := hv.sc_inv
        subst this
        subst h1
        exact ⟨rfl, hR.keep, fun c o hc => hR.imm c (true, o) (he.imm c _ (by simp [allH, hc]))⟩
      · cases h1
    | pan v v' hv => cases h1
  · cases h

/-- One variable is known, the others are not. -/
def oneG (gi : Nat) (cs : List AVal) (g : Nat) : AVal :=
  match Nat.beq g gi with
  | true => .iptr cs
  | false => plainG g

theorem oneG_wf {gi : Nat} {cs : List AVal} (h : sfvs cs = true) (g : Nat) : WF 0 (oneG gi cs g) := by
  unfold oneG
  split
  · exact .iptr cs (sfvs_wf h)
  · exact .sc _

theorem oneG_rel {gi : Nat} {cs : List AVal} {w : World} {ι : Inj} {c : Array Value} {e : TypeId} {fr : Nat × Nat} (hh : w.heap[gi]? = some (.cells c e fr)) (h : LRel 0 ι (allH w) cs c.toList) (g : Nat) :
    VRel 0 ι (allH w) (oneG gi cs g) (.pointer (some ⟨g, 0, none⟩)) := by
  unfold oneG
  split
  · rename_i hb
    have := Nat.eq_of_beq_eq_true hb
    subst this
    refine .iptr cs g 0 (CRel.of_list h ?_)
    intro k hk
    rw [Nat.zero_add, allH_cell hh]
    simp
  · exact .sc _

theorem bytes_inj' {a b : String} (h : a.toUTF8.data.toList = b.toUTF8.data.toList) : a = b := by
  have h1 : a.toUTF8 = b.toUTF8 := by
    have := Array.toList_inj.1 h
    cases ha : a.toUTF8; cases hb : b.toUTF8
    rw [ha, hb] at this
    exact congrArg ByteArray.mk this
  exact String.toByteArray_inj.1 h1

/-- Functions by their names. -/
def decF (P : Program) : List (String × Nat) → List UInt8 → Option AVal
  | [], _ => none
  | (s, f) :: r, x => if x = s.toUTF8.data.toList ∧ x ≠ [] ∧ P.funcNamed s = some f then some (.func (.func f) [] []) else decF P r x

theorem decF_ok {P : Program} {n : Nat} {ι : Inj} {HH : Imm} : ∀ (l : List (String × Nat)) (t : TypeId) (v : Value) (a : AVal), decF P l (funcToken P (t, v)) = some a → VRel n ι HH a v
  | [], t, v, a, h => by cases h
  | (s, f) :: r, t, v, a, h => by
      unfold decF at h
      split at h
      · rename_i hc
        obtain ⟨h1, h2, h3⟩ := hc
        cases h
        cases hb : funcToken P (t, v) with
        | nil => exact absurd hb h2
        | cons b bs =>
          obtain ⟨g, fn, e1, e2, e3, e4⟩ := funcToken_tells hb
          subst e1
          have : fn.name = s := bytes_inj' (by rw [e4, ← hb, h1])
          rw [this, h3] at e3
          cases e3
          exact .func _ [] [] [] [] .nil .nil
      · exact decF_ok r t v a h

/-- A table of functions that is laid is what the abstract value says. -/
theorem funcsAt_rel {P : Program} {w : World} {n : String} {d : DataW Unit} (h : funcsAt P w n d) {g t k : Nat} {vs : List AVal} (hg : P.globalNamed n = some g) (ht : (P.globals[g]?).map (·.type) = some t)
    {tbl : List (String × Nat)} (ha : absD P (decF P tbl) k t d.funcsOut = some vs) {ι : Inj} (g' : Nat) : VRel 0 ι (allH w) (oneG g vs g') (.pointer (some ⟨g', 0, none⟩)) := by
  obtain ⟨g0, t0, cs, fuel, p, e1, e2, e3, e4⟩ := h
  rw [hg] at e1
  cases e1
  rw [ht] at e2
  cases e2
  unfold World.var? at e3
  rw [hg] at e3
  simp only [Option.bind_some] at e3
  split at e3
  · rename_i c e fr hh
    cases e3
    exact oneG_rel hh (trod_rel (fun t v a => decF_ok tbl t v a) fuel k _ _ _ p vs e4 ha) g'
  · cases e3
end Abs
end
