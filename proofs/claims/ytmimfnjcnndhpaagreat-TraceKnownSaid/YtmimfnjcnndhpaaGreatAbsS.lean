/-
  Part of the abstract layer (S): values, stores and steps that stand for those of the model, and the proof that they do. It proves no statement by itself.
-/
import Derived.Test.YtmimfnjcnndhpaaGreatAbsR
noncomputable section
namespace Abs
set_option linter.unusedVariables false
set_option linter.unusedSimpArgs false
set_option linter.unusedSectionVars false
open Go

/-! ### What is known of a region ahead of its run -/

def bound (o : Oper) : List Nat := (o.after.toList.filter (Region.binds .any)).map (·.on)

def look : List (Nat × Nat) → Nat → Nat
  | [], _ => 0
  | (j, m) :: r, i => match Nat.beq j i with
    | true => m
    | false => look r i

def maskOf (acc : List (Nat × Nat)) (l : List Nat) : Nat := l.foldl (fun m on => (m ||| 2 ^ on) ||| look acc on) 0

def boundAt (ops : Array Oper) (i : Nat) : List Nat :=
  match ops[i]? with
  | some o => bound o
  | none => []

def ancs (ops : Array Oper) : List Nat → List (Nat × Nat) → List (Nat × Nat)
  | [], acc => acc
  | i :: rest, acc => ancs ops rest ((i, maskOf acc (boundAt ops i)) :: acc)

def tmpOf : Operand → Option Tmp
  | .tmp t => some t
  | _ => none

def guardTmp (ops : Array Oper) (o : Oper) : Option Tmp :=
  match o.guard with
  | some (j, _) => (ops[j]?).bind (·.dst)
  | none => none

def readsOf (ops : Array Oper) (o : Oper) : List Tmp := o.op.operands.toList.filterMap tmpOf ++ (guardTmp ops o).toList

def clash (ops : Array Oper) (o p : Oper) : Bool :=
  (match o.dst with | some d => (readsOf ops p).contains d || p.dst == some d | none => false) ||
  (match p.dst with | some d => (readsOf ops o).contains d | none => false)

def clashAt (ops : Array Oper) (i j : Nat) : Bool :=
  match ops[i]?, ops[j]? with
  | some o, some p => clash ops o p
  | _, _ => true

def effAt (E : Env) (ops : Array Oper) (i : Nat) : Bool :=
  match ops[i]? with
  | some o => isEff E o.op
  | none => true

def chkPairs (E : Env) (ops : Array Oper) (anc : List (Nat × Nat)) : List Nat → Bool
  | [] => true
  | i :: rest => (rest.all fun j => (!(effAt E ops i) && !(clashAt ops i j)) || (look anc j).testBit i) && chkPairs E ops anc rest

def chkTop (ops : Array Oper) : List Nat → List Nat → Bool
  | _, [] => true
  | seen, i :: rest => (boundAt ops i).all (fun on => seen.contains on) && !(seen.contains i) && Nat.blt i ops.size && chkTop ops (i :: seen) rest

def drawOk (E : Env) (ops : Array Oper) (canon : List Nat) : Bool :=
  Nat.beq canon.length ops.size && (List.range ops.size).all (fun i => canon.contains i) && chkTop ops [] canon && chkPairs E ops (ancs ops canon []) canon

/-! #### What the checks say -/

theorem chkTop_spec {ops : Array Oper} : ∀ {canon seen : List Nat}, chkTop ops seen canon = true →
    (∀ p i q, canon = p ++ i :: q → (∀ on ∈ boundAt ops i, on ∈ seen ∨ on ∈ p) ∧ i ∉ seen ∧ i ∉ p ∧ i < ops.size)
  | [], _, _ => by intro p i q h; simp at h
  | x :: rest, seen, h => by
      simp only [chkTop, Bool.and_eq_true, Bool.not_eq_true', List.all_eq_true] at h
      obtain ⟨⟨⟨h1, h2⟩, h3⟩, h4⟩ := h
      intro p i q hc
      cases p with
      | nil =>
        simp at hc
        obtain ⟨rfl, rfl⟩ := hc
        refine ⟨fun on hon => .inl (by simpa using h1 on hon), by simpa using h2, by simp, by simpa [Nat.blt_eq] using h3⟩
      | cons y p =>
        simp at hc
        obtain ⟨rfl, rfl⟩ := hc
        obtain ⟨g1, g2, g3, g4⟩ := chkTop_spec h4 p i q rfl
        refine ⟨fun on hon => ?_, fun hm => g2 (by simp [hm]), ?_, g4⟩
        · rcases g1 on hon with h | h
          · simp at h
            rcases h with rfl | h
            · right; simp
            · exact .inl h
          · right; simp [h]
        · intro hm
          simp at hm
          rcases hm with rfl | hm
          · exact g2 (by simp)
          · exact g3 hm

theorem chkPairs_spec {E : Env} {ops : Array Oper} {anc : List (Nat × Nat)} : ∀ {canon : List Nat}, chkPairs E ops anc canon = true →
    ∀ p i q j r, canon = p ++ i :: q ++ j :: r → (effAt E ops i = true ∨ clashAt ops i j = true) → (look anc j).testBit i = true
  | [], _ => by intro p i q j r h; simp at h
  | x :: rest, h => by
      simp only [chkPairs, Bool.and_eq_true, List.all_eq_true] at h
      obtain ⟨h1, h2⟩ := h
      intro p i q j r hc hor
      cases p with
      | nil =>
        simp at hc
        obtain ⟨rfl, rfl⟩ := hc
        have := h1 j (by simp)
        simp only [Bool.or_eq_true, Bool.and_eq_true, Bool.not_eq_true'] at this
        rcases this with ⟨a, b⟩ | this
        · rcases hor with h | h
          · rw [h] at a; cases a
          · rw [h] at b; cases b
        · exact this
      | cons y p =>
        simp at hc
        obtain ⟨rfl, rfl⟩ := hc
        exact chkPairs_spec h2 p i q j r (by simp) hor

def Closed (ops : Array Oper) (L : Nat → Bool) : Prop := ∀ i, L i = true → ∀ on ∈ boundAt ops i, L on = true

theorem maskOf_spec (acc : List (Nat × Nat)) (i : Nat) : ∀ (l : List Nat) (m0 : Nat), (l.foldl (fun m on => (m ||| 2 ^ on) ||| look acc on) m0).testBit i = true →
    m0.testBit i = true ∨ ∃ on ∈ l, on = i ∨ (look acc on).testBit i = true
  | [], m0, h => .inl h
  | x :: l, m0, h => by
      simp only [List.foldl_cons] at h
      rcases maskOf_spec acc i l _ h with h1 | ⟨on, h1, h2⟩
      · simp only [Nat.testBit_or, Bool.or_eq_true, Nat.testBit_two_pow, decide_eq_true_eq] at h1
        rcases h1 with (h1 | h1) | h1
        · exact .inl h1
        · exact .inr ⟨x, by simp, .inl h1⟩
        · exact .inr ⟨x, by simp, .inr h1⟩
      · exact .inr ⟨on, by simp [h1], h2⟩

theorem ancs_spec {ops : Array Oper} {L : Nat → Bool} (hL : Closed ops L) : ∀ (canon : List Nat) (acc : List (Nat × Nat)),
    (∀ j i, L j = true → (look acc j).testBit i = true → L i = true) → ∀ j i, L j = true → (look (ancs ops canon acc) j).testBit i = true → L i = true
  | [], _, h => h
  | x :: rest, acc, h => by
      refine ancs_spec hL rest _ ?_
      intro j i hj ht
      simp only [look] at ht
      by_cases hx : x = j
      · subst hx
        have : Nat.beq x x = true := Nat.beq_refl x
        rw [this] at ht
        simp only [] at ht
        rcases maskOf_spec acc i _ 0 ht with h1 | ⟨on, h1, h2⟩
        · simp at h1
        · have hon := hL x hj on h1
          rcases h2 with rfl | h2
          · exact hon
          · exact h on i hon h2
      · rw [nbeq_false hx] at ht
        exact h j i hj ht

/-! #### Acts that know a part -/

structure Ran where
  i : Nat
  dst : Option Tmp
  x : Option AVal

def part (L : Nat → Bool) : List Ran → AAct → AAct
  | [], a => a
  | r :: rs, a => part L rs (if L r.i then a.put r.dst r.x else a)

def everyOne : Nat → Bool := fun _ => true

def lastW (L : Nat → Bool) (t : Tmp) : List Ran → Option (Option AVal)
  | [] => none
  | r :: rs =>
    match lastW L t rs with
    | some x => some x
    | none => if L r.i = true ∧ r.dst = some t then some r.x else none

theorem AAct.put_n (a : AAct) (d : Option Tmp) (x : Option AVal) : (a.put d x).n = a.n ∧ (a.put d x).defers = a.defers := by
  cases d <;> exact ⟨rfl, rfl⟩

theorem AAct.fits_n {a b : AAct} (h : a.n = b.n) (d : Option Tmp) : a.fits d = b.fits d := by
  unfold AAct.fits; rw [h]

theorem AAct.put_get {a : AAct} {d : Option Tmp} (hf : a.fits d = true) (x : Option AVal) (t : Tmp) : (a.put d x).tmps.get t = if d = some t then x else a.tmps.get t := by
  cases d with
  | none => simp [AAct.put_eq]
  | some d =>
    simp only [AAct.fits, Bool.and_eq_true, Nat.blt_eq] at hf
    simp only [AAct.put_eq, Option.some.injEq]
    rw [T.get_put _ _ _ _ _ (by omega)]
    by_cases h : t = d
    · subst h; simp
    · simp [h, Ne.symm h]

theorem part_n (L : Nat → Bool) : ∀ (rs : List Ran) (a : AAct), (part L rs a).n = a.n ∧ (part L rs a).defers = a.defers
  | [], a => ⟨rfl, rfl⟩
  | r :: rs, a => by
      obtain ⟨h1, h2⟩ := part_n L rs (if L r.i then a.put r.dst r.x else a)
      rw [part, h1, h2]
      split
      · exact a.put_n _ _
      · exact ⟨rfl, rfl⟩

theorem part_get (L : Nat → Bool) (t : Tmp) : ∀ (rs : List Ran) (a : AAct), (∀ r ∈ rs, a.fits r.dst = true) → (part L rs a).tmps.get t = (lastW L t rs).getD (a.tmps.get t)
  | [], a, _ => rfl
  | r :: rs, a, hf => by
      rw [part, part_get L t rs _ (fun r' hr' => by
        rw [AAct.fits_n (b := a) (by split <;> first | exact (a.put_n _ _).1 | rfl)]; exact hf r' (by simp [hr']))]
      rw [lastW]
      cases lastW L t rs with
      | some x => rfl
      | none =>
        simp only [Option.getD_none]
        by_cases hL : L r.i = true
        · rw [if_pos hL, AAct.put_get (hf r (by simp))]
          by_cases hd : r.dst = some t
          · rw [if_pos hd, if_pos ⟨hL, hd⟩]; rfl
          · rw [if_neg hd, if_neg (fun h => hd h.2)]; rfl
        · rw [if_neg hL, if_neg (fun h => hL h.1)]; rfl

theorem lastW_append (L : Nat → Bool) (t : Tmp) : ∀ (rs ss : List Ran), lastW L t (rs ++ ss) = (lastW L t ss).or (lastW L t rs)
  | [], ss => by simp [lastW]
  | r :: rs, ss => by
      simp only [List.cons_append, lastW, lastW_append L t rs ss]
      cases lastW L t ss with
      | some x => simp
      | none => cases lastW L t rs <;> simp

theorem lastW_none {L : Nat → Bool} {t : Tmp} : ∀ {rs : List Ran}, (∀ r ∈ rs, r.dst = some t → L r.i = false) → lastW L t rs = none
  | [], _ => rfl
  | r :: rs, h => by
      rw [lastW, lastW_none (fun r' hr' => h r' (by simp [hr']))]
      simp only []
      rw [if_neg]
      intro ⟨h1, h2⟩
      rw [h r (by simp) h2] at h1; cases h1

theorem lastW_all {L : Nat → Bool} {t : Tmp} : ∀ {rs : List Ran}, (∀ r ∈ rs, r.dst = some t → L r.i = true) → lastW L t rs = lastW everyOne t rs
  | [], _ => rfl
  | r :: rs, h => by
      rw [lastW, lastW, lastW_all (fun r' hr' => h r' (by simp [hr']))]
      cases lastW everyOne t rs with
      | some x => rfl
      | none =>
        simp only [everyOne, true_and]
        by_cases hd : r.dst = some t
        · rw [if_pos ⟨h r (by simp) hd, hd⟩, if_pos hd]
        · rw [if_neg (fun hh => hd hh.2), if_neg hd]

theorem lastW_congr {L L' : Nat → Bool} {t : Tmp} : ∀ {rs : List Ran}, (∀ r ∈ rs, r.dst = some t → L r.i = L' r.i) → lastW L t rs = lastW L' t rs
  | [], _ => rfl
  | r :: rs, h => by
      rw [lastW, lastW, lastW_congr (fun r' hr' => h r' (by simp [hr']))]
      cases lastW L' t rs with
      | some x => rfl
      | none =>
        simp only []
        by_cases hd : r.dst = some t
        · rw [h r (by simp) hd]
        · rw [if_neg (fun hh => hd hh.2), if_neg (fun hh => hd hh.2)]

theorem part_append (L : Nat → Bool) : ∀ (rs ss : List Ran) (a : AAct), part L (rs ++ ss) a = part L ss (part L rs a)
  | [], _, _ => rfl
  | r :: rs, ss, a => by simp only [List.cons_append, part]; exact part_append L rs ss _

theorem part_eq {L : Nat → Bool} : ∀ (rs : List Ran) (a : AAct), (∀ r ∈ rs, L r.i = true) → part L rs a = part everyOne rs a
  | [], _, _ => rfl
  | r :: rs, a, h => by
      rw [part, part, if_pos (h r (by simp))]
      exact part_eq rs _ (fun r' hr' => h r' (by simp [hr']))

/-! #### The run in the order that is laid down, and what is owed for the others -/

structure Rec where
  i : Nat
  op : Op
  a : AAct
  v : AVal

def Rec.holds (E : Env) (r : Rec) (σ : AStore) : Prop := aRead E r.op (r.a.ev E.G) σ = some r.v

def recsOk (E : Env) (m : Nat) (σ : AStore) : List Rec → Prop
  | [] => True
  | r :: rs => (match m.testBit r.i with | true => True | false => r.holds E σ) ∧ recsOk E m σ rs

theorem recsOk_mem {E : Env} {m : Nat} {σ : AStore} : ∀ {rs : List Rec}, recsOk E m σ rs → ∀ r ∈ rs, m.testBit r.i = true ∨ r.holds E σ
  | [], _, _, h => by simp at h
  | x :: rs, hk, r, hr => by
      simp at hr
      rcases hr with rfl | hr
      · have := hk.1
        cases ht : m.testBit r.i with
        | true => exact .inl rfl
        | false => rw [ht] at this; exact .inr this
      · exact recsOk_mem hk.2 r hr

def aGoD (E : Env) (K : APred) (a0 : AAct) (k : Option AVal → AStore → Prop) (σ : AStore) : ARes → Prop
  | .val v σ' => k (some v) σ'
  | .vals l => ∀ p ∈ l, k (some p.1) p.2
  | .skip σ' => k (some undefA) σ'
  | .enter f args => ACallsT E f args σ fun e σ' =>
      match e with
      | .ret v => k (some v) σ'
      | .pan v => K (.pan v) a0 σ'
  | .pan v => K (.pan v) a0 σ
  | .dfr _ | .recov | .bad => False

def aDr (E : Env) (ops : Array Oper) (anc : List (Nat × Nat)) (K : APred) (a0 : AAct) : List Nat → List Rec → AAct → AStore → Prop
  | [], _, a, σ => K .normal a σ
  | i :: rest, recs, a, σ =>
    match ops[i]? with
    | none => False
    | some o =>
      match o.guard with
      | none =>
        match isEff E o.op with
        | true => aGoD E K a0 (fun x σ' => recsOk E (look anc i) σ' recs ∧ aDr E ops anc K a0 rest recs (a.put o.dst x) σ') σ (aOp E true o.op (a.ev E.G) σ)
        | false => match aRead E o.op (a.ev E.G) σ with
          | some v => aDr E ops anc K a0 rest (⟨i, o.op, a, v⟩ :: recs) (a.put o.dst (some v)) σ
          | none => False
      | some (j, want) =>
        match aYield ops a j with
        | none => False
        | some b =>
          (b = some want →
            match isEff E o.op with
            | true => aGoD E K a0 (fun x σ' => recsOk E (look anc i) σ' recs ∧ aDr E ops anc K a0 rest recs (a.put o.dst x) σ') σ (aOp E true o.op (a.ev E.G) σ)
            | false => match aRead E o.op (a.ev E.G) σ with
              | some v => aDr E ops anc K a0 rest (⟨i, o.op, a, v⟩ :: recs) (a.put o.dst (some v)) σ
              | none => False) ∧
          (b ≠ some want → aDr E ops anc K a0 rest recs (a.put o.dst (some undefA)) σ)

def clearAll : List Oper → AAct → AAct
  | [], a => a
  | o :: os, a => clearAll os (a.put o.dst none)

def fitsAll (ops : List Oper) (a : AAct) : Bool := ops.all fun o => a.fits o.dst

/-- A region whose order is drawn, run in the order 'canon'. -/
def aDrawn (E : Env) (ops : Array Oper) (canon : List Nat) (K : APred) (a : AAct) (σ : AStore) : Prop :=
  drawOk E ops canon = true ∧ fitsAll ops.toList a = true ∧ aDr E ops (ancs ops canon []) K (clearAll ops.toList a) canon [] a σ
end Abs
