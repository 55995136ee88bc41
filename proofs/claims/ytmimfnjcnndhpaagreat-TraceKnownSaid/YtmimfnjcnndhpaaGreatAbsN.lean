/-
  Part of the abstract layer (N): values, stores and steps that stand for those of the model, and the proof that they do. It proves no statement by itself.
-/
import Derived.Test.YtmimfnjcnndhpaaGreatAbsNu
noncomputable section
namespace Abs
set_option linter.unusedVariables false
set_option linter.unusedSimpArgs false
set_option linter.unusedSectionVars false
open Go

structure ADef where
  fn : Fn
  cap : List AVal
  args : List AVal

/-- What is called: a function; the round of a loop over a function. -/
inductive Tgt where
  | fn (f : FuncId)
  | yld (b : Nat)

inductive ARes where
  | val (v : AVal) (σ : AStore)
  | vals (l : List (AVal × AStore))
  | skip (σ : AStore)
  | enter (f : Tgt) (args : List AVal)
  | dfr (d : ADef)
  | pan (v : AVal)
  | recov
  | bad

def ARes.ofO : Option (AVal × AStore) → ARes
  | some (v, σ) => .val v σ
  | none => .bad
def ARes.ofV (σ : AStore) : Option AVal → ARes
  | some v => .val v σ
  | none => .bad
def ARes.ofS : Option AStore → ARes
  | some σ => .skip σ
  | none => .bad
def ARes.ofL : Option (List (AVal × AStore)) → ARes
  | some l => .vals l
  | none => .bad

abbrev ARho := Operand → Option AVal

def allSome (ρ : ARho) : List Operand → Option (List AVal)
  | [] => some []
  | x :: xs => match ρ x, allSome ρ xs with
    | some v, some vs => some (v :: vs)
    | _, _ => none

def partsSome (ρ : ARho) : List (Nat × Operand) → Option (List (Nat × AVal))
  | [] => some []
  | (i, x) :: xs => match ρ x, partsSome ρ xs with
    | some v, some vs => some ((i, v) :: vs)
    | _, _ => none

def optSome (ρ : ARho) : Option Operand → Option (Option AVal)
  | none => some none
  | some x => (ρ x).map some

/-! ### What the types say -/

def fieldOf (E : Env) (s : TypeId) (f : Nat) : Option (Nat × TyI) :=
  match E.ty s with
  | some i => match i.desc with
    | .struct fs => match fs[f]? with
      | some fd => (E.ty fd.type).map fun j => (fd.offset, j)
      | none => none
    | _ => none
  | none => none

def arrayOf (E : Env) (t : TypeId) : Option (Nat × TyI) :=
  match E.ty t with
  | some i => match i.desc with
    | .array n e => (E.ty e).map fun j => (n, j)
    | _ => none
  | none => none

def mapOf (E : Env) (t : TypeId) : Option (TyI × TyI) :=
  match E.ty t with
  | some i => match i.desc with
    | .map k e => match E.ty k, E.ty e with
      | some a, some b => some (a, b)
      | _, _ => none
    | _ => none
  | none => none

def srcOk : TypeDesc → Bool
  | .slice _ | .string => true
  | _ => false

def max2 (big : Bool) (x : Option AVal) (y : AVal) : Option AVal :=
  match x, y with
  | some (.sc (.int k a)), .sc (.int _ b) => some (.sc (.int k (if big then (if b > a then b else a) else (if b < a then b else a))))
  | _, _ => none

def aBuiltin (E : Env) (b : Builtin) (ats : List TypeId) (args : List AVal) (σ : AStore) : ARes :=
  match b, ats, args with
  | .append, [t, t2], [s, x] =>
    match sliceElem E t, E.ty t2 with
    | some j, some i2 => if j.okz = true ∧ srcOk i2.desc = true then
        (match aSrc j.size x σ with
        | some xs => .ofO (appTag E t s σ (aAppend j.size j.bytes s xs σ))
        | none => .bad) else .bad
    | _, _ => .bad
  | .len, [t], [x] =>
    match E.ty t with
    | some i => .ofV σ (aLen i.desc x σ)
    | none => .bad
  | .copy, t :: _, [d, s] =>
    match sliceElem E t with
    | some j => .ofO (aCopy j.size d s σ)
    | none => .bad
  | .delete, t :: _, [m, k] =>
    match mapOf E t with
    | some (ki, _) => match aMapDel ki.desc m k σ with
      | some σ' => .val (.tuple []) σ'
      | none => .bad
    | none => .bad
  | .max, _, x :: xs => .ofV σ (xs.foldl (max2 true) (some x))
  | .min, _, x :: xs => .ofV σ (xs.foldl (max2 false) (some x))
  | .recover, _, _ => .recov
  | .unsafeSliceData, _, [x] => .ofV σ (aSliceData x)
  | .unsafeString, [pt, _], [p, n] => .ofO (aUStr E pt p n σ)
  | _, _, _ => .bad

def aOp (E : Env) (lit : Bool) (op : Op) (ρ : ARho) (σ : AStore) : ARes :=
  match op with
  | .move x | .assign x => .ofV σ (ρ x)
  | .pick c a b =>
    match ρ c with
    | some (.sc (.bool t)) => .ofV σ (if t then ρ a else ρ b)
    | _ => .bad
  | .alloc t =>
    match E.ty t with
    | some i => .ofO (tagNew (isBld (absV i.zero)) t σ (aNew (absV i.zero) σ))
    | none => .bad
  | .box _ x =>
    match ρ x with
    | some v => .ofO (aNew v σ)
    | none => .bad
  | .build t parts =>
    match E.ty t, partsSome ρ parts.toList with
    | some i, some ps =>
      match i.desc with
      | .struct fs => .ofV σ (aBuildS E.ty fs i.zero ps)
      | .array _ e => match E.ty e with
        | some j => .ofV σ (aBuildA j.size i.zero ps)
        | none => .bad
      | _ => .bad
    | _, _ => .bad
  | .buildSlice t len parts =>
    match sliceElem E t, partsSome ρ parts.toList with
    | some j, some ps => if lit then .ofV σ (aLitSlice j len ps) else .ofO (aBuildSlice j len ps σ)
    | _, _ => .bad
  | .load t a =>
    match E.ty t, ρ a with
    | some i, some p => .ofV σ (aLoad i.isA i.size p σ)
    | _, _ => .bad
  | .store t a x =>
    match E.ty t, ρ a, ρ x with
    | some i, some p, some v => .ofS (aStore i.size p v σ)
    | _, _, _ => .bad
  | .nilCheck x =>
    match ρ x with
    | some (.ptr b i k) => .val (.ptr b i k) σ
    | some (.iptr cs) => .val (.iptr cs) σ
    | some (.func (.func f) a b) => .val (.func (.func f) a b) σ
    | some (.iface t v) => .val (.iface t v) σ
    | _ => .bad
  | .binOp op t x y _ =>
    match E.ty t, ρ x, ρ y with
    | some i, some a, some b => .ofV σ (aBin2 E t i.desc op (isConstOp x || isConstOp y) a b)
    | _, _, _ => .bad
  | .unOp op _ x =>
    match ρ x with
    | some a => .ofV σ (aUn op a)
    | none => .bad
  | .convert s d x =>
    match E.ty s, E.ty d, ρ x with
    | some i, some j, some a => .ofO (aConv E.ty i.desc j.desc a σ)
    | _, _, _ => .bad
  | .makeInterface t x =>
    match E.ty t, ρ x with
    | some i, some a => .ofV σ (aIface i.desc t a)
    | _, _ => .bad
  | .makeFunc fn first captured =>
    match allSome ρ first.toList, allSome ρ captured.toList with
    | some a, some b => .val (.func fn a b) σ
    | _, _ => .bad
  | .makeMap _ none => .val (.map σ.next) (σ.alloc (.map [] 0))
  | .makeMap t (some r) =>
    match mapOf E t, ρ r with
    | some _, some (.sc (.int _ _)) => .val (.map σ.next) (σ.alloc (.map [] 0))
    | _, _ => .bad
  | .makeSlice t l c =>
    match sliceElem E t, ρ l, ρ c with
    | some j, some a, some b => .ofO (aMakeSlice j a b σ)
    | _, _, _ => .bad
  | .slice t x lo hi none =>
    match E.ty t, ρ x, optSome ρ lo, optSome ρ hi with
    | some i, some a, some l, some h =>
      match i.desc with
      | .string => .ofV σ (aSliceStr a l h)
      | .slice e => match E.ty e with
        | some j => .ofV σ (aSlice j.size a l h σ)
        | none => .bad
      | .pointer arr => match E.ty arr with
        | some ia => match ia.desc with
          | .array n e => match E.ty e with
            | some j => .ofO (aSliceArr n j.size a l h σ)
            | none => .bad
          | _ => .bad
        | none => .bad
      | .array n e => match E.ty e with
        | some j => .ofO (aSliceArr n j.size a l h σ)
        | none => .bad
      | _ => .bad
    | _, _, _, _ => .bad
  | .slice t x lo hi (some m) =>
    match E.ty t, ρ x, optSome ρ lo, optSome ρ hi, optSome ρ (some m) with
    | some i, some a, some l, some h, some mx =>
      match i.desc with
      | .slice e => match E.ty e with
        | some j => .ofV σ (aSlice3 j.size a l h mx σ)
        | none => .bad
      | _ => .bad
    | _, _, _, _, _ => .bad
  | .fieldAddr s x f =>
    match fieldOf E s f, ρ x with
    | some (off, j), some p => if j.size ≠ 0 then .ofV σ (aField off p) else .bad
    | _, _ => .bad
  | .field s x f =>
    match fieldOf E s f, ρ x with
    | some (off, j), some a => .ofV σ (aPart j.isA j.size off a)
    | _, _ => .bad
  | .indexAddr t x ix =>
    match ρ x, ρ ix with
    | some a, some i =>
      match sliceElem E t with
      | some j => .ofV σ (aIndexS j.size a i σ)
      | none => match arrayOf E t with
        | some (n, j) => .ofV σ (aIndexA n j.size a i)
        | none => .bad
    | _, _ => .bad
  | .index t x ix =>
    match ρ x, ρ ix with
    | some a, some i =>
      match arrayOf E t with
      | some (n, j) => .ofV σ (aIndexV n j.isA j.size a i)
      | none => match E.ty t with
        | some ti => match ti.desc with
          | .string => .ofV σ (aIndexStr a i)
          | _ => .bad
        | none => .bad
    | _, _ => .bad
  | .lookup t x ix ok =>
    match mapOf E t, ρ x, ρ ix with
    | some (ki, ei), some a, some k => .ofV σ (aLookup ki.desc ei.zero ok a k σ)
    | _, _, _ => .bad
  | .mapUpdate t m k x | .insert t m k x =>
    match mapOf E t, ρ m, ρ k, ρ x with
    | some (ki, _), some a, some k, some v => .ofS (aMapSet ki.desc a k v σ)
    | _, _, _, _ => .bad
  | .range t x =>
    match E.ty t, ρ x with
    | some i, some a => .ofO (aRange i.desc a σ)
    | _, _ => .bad
  | .next it isS =>
    match ρ it with
    | some a => .ofL (aNext a isS σ)
    | none => .bad
  | .entry it =>
    match ρ it with
    | some a => .ofV σ (aEntry a σ)
    | none => .bad
  | .typeAssert x _ t ok =>
    match E.ty t, ρ x with
    | some i, some a => .ofV σ (aAssert i.desc t i.zero ok a)
    | _, _ => .bad
  | .extract t ix =>
    match ρ t with
    | some a => .ofV σ (aExtract a ix)
    | none => .bad
  | .call c =>
    match allSome ρ c.args.toList with
    | some args =>
      match c.callee with
      | .builtin b => aBuiltin E b c.argTypes.toList args σ
      | .value f =>
        match ρ f with
        | some (.func (.func g) first cap) => if E.fns g = true then .enter (.fn g) (first ++ args ++ cap) else if E.nes g = true then (match first ++ args ++ cap with | [x] => .val x σ | _ => .bad) else .bad
        | some (.yld b) => match σ.get b with
          | some (.loop _ _ ps _ _ _ nt _) => if args.length = ps.size ∧ (ps.toList.all fun t => Nat.blt t nt) = true ∧ nt < 1000000 then .enter (.yld b) args else .bad
          | _ => .bad
        | _ => .bad
      | .invoke _ _ => .bad
    | none => .bad
  | .defer c =>
    match allSome ρ c.args.toList with
    | some args =>
      match c.callee with
      | .value f =>
        match ρ f with
        | some (.func (.func g) first cap) => .dfr ⟨.func g, cap, first ++ args⟩
        | _ => .bad
      | _ => .bad
    | none => .bad
  | .panic x =>
    match ρ x with
    | some (.iface t v) => .pan (.iface t v)
    | _ => .bad
  | _ => .bad

structure DefRel (n : Nat) (ι : Inj) (H : Imm) (d : ADef) (d' : Deferred) : Prop where
  tgt : ∃ cap' : List Value, d'.target = .fn d.fn cap'.toArray ∧ LRel n ι H d.cap cap'
  args : ∃ args' : List Value, d'.args = args'.toArray ∧ LRel n ι H d.args args'
  ny : ∃ g, d.fn = .func g

def ValRel (E : Env) (ι : Inj) (H : Imm) (σ : AStore) (r : Result Next) (v : AVal) (σ' : AStore) : Prop :=
  ∃ v' w' ι' H', r = .ok (.value v') w' ∧ VRel σ'.next ι' H' v v' ∧ Rel E ι' H' σ' w' ∧ Ext σ.next ι H σ'.next ι' H'

def ResRel (E : Env) (ι : Inj) (H : Imm) (σ : AStore) (w : World) (r : Result Next) : ARes → Prop
  | .val v σ' => ValRel E ι H σ r v σ'
  | .vals l => ∃ p ∈ l, ValRel E ι H σ r p.1 p.2
  | .skip σ' => ∃ w', r = .ok .skip w' ∧ Rel E ι H σ' w' ∧ σ'.next = σ.next
  | .enter (.fn f) args => ∃ args' : List Value, r = .ok (.enter f args'.toArray) w ∧ LRel σ.next ι H args args'
  | .enter (.yld b) args => ∃ args' : List Value, LRel σ.next ι H args args' ∧ ∃ st pend ps as bd tm nt d fn tmps, σ.get b = some (.loop st pend ps as bd tm nt d) ∧ args.length = ps.size ∧ (ps.toList.all fun t => Nat.blt t nt) = true ∧ nt < 1000000 ∧
      tmps.size = nt ∧ (∀ t v, tm.get t = some v → t < nt ∧ VRel σ.next ι H v (tmps.getD t undef)) ∧
      r = .ok (.round (ι b).blk fn ((ps.toList.zip args').foldl (fun tmps x => tmps.setIfInBounds x.1 x.2) tmps) as bd) w
  | .dfr d => ∃ d', r = .ok (.defer d') w ∧ DefRel σ.next ι H d d'
  | .pan v => ∃ v', r = .halt (.panic v') w ∧ VRel σ.next ι H v v'
  | .recov => r = .ok .recover w
  | .bad => True

section
variable {E : Env} {ι : Inj} {H : Imm} {σ σ' : AStore} {w : World}

theorem SndV.next {r : Result Value} {v : AVal} (h : SndV E ι H σ r v σ') : ValRel E ι H σ (r.andThen fun a w' => .ok (.value a) w') v σ' := by
  obtain ⟨v', w', ι', H', rfl, h⟩ := h
  exact ⟨v', w', ι', H', rfl, h⟩

theorem ResRel.ofO {r : Result Value} {o : Option (AVal × AStore)} (h : ∀ v σ', o = some (v, σ') → SndV E ι H σ r v σ') :
    ResRel E ι H σ w (r.andThen fun a w' => .ok (.value a) w') (.ofO o) := by
  cases o with
  | none => trivial
  | some p => obtain ⟨v, σ'⟩ := p; exact (h v σ' rfl).next
theorem ResRel.ofV {r : Result Value} {o : Option AVal} (h : ∀ v, o = some v → SndV E ι H σ r v σ) :
    ResRel E ι H σ w (r.andThen fun a w' => .ok (.value a) w') (.ofV σ o) := by
  cases o with
  | none => trivial
  | some v => exact (h v rfl).next
theorem ResRel.ofS {r : Result Unit} {o : Option AStore} (h : ∀ σ', o = some σ' → ∃ w', r = .ok () w' ∧ Rel E ι H σ' w' ∧ σ'.next = σ.next) :
    ResRel E ι H σ w (r.andThen fun _ w' => .ok .skip w') (.ofS o) := by
  cases o with
  | none => trivial
  | some σ' => obtain ⟨w', rfl, h1, h2⟩ := h σ' rfl; exact ⟨w', rfl, h1, h2⟩

/-- Operands. -/
def RhoRel (n : Nat) (ι : Inj) (H : Imm) (ρ : ARho) (ρ' : Operand → Value) : Prop := ∀ x v, ρ x = some v → VRel n ι H v (ρ' x)

theorem allSome_rel {n : Nat} {ρ : ARho} {ρ' : Operand → Value} (hρ : RhoRel n ι H ρ ρ') : ∀ {xs : List Operand} {vs : List AVal}, allSome ρ xs = some vs → LRel n ι H vs (xs.map ρ')
  | [], vs, h => by simp [allSome] at h; subst h; exact .nil
  | x :: xs, vs, h => by
      unfold allSome at h
      split at h
      · rename_i v vs' h1 h2
        cases h
        exact .cons _ _ _ _ (hρ x v h1) (allSome_rel hρ h2)
      · cases h

theorem partsSome_rel {n : Nat} {ρ : ARho} {ρ' : Operand → Value} (hρ : RhoRel n ι H ρ ρ') : ∀ {xs : List (Nat × Operand)} {vs : List (Nat × AVal)}, partsSome ρ xs = some vs →
    PRel n ι H vs (xs.map fun (i, x) => (i, ρ' x))
  | [], vs, h => by simp [partsSome] at h; subst h; exact .nil
  | (i, x) :: xs, vs, h => by
      unfold partsSome at h
      split at h
      · rename_i v vs' h1 h2
        cases h
        exact .cons _ _ _ _ _ (hρ x v h1) (partsSome_rel hρ h2)
      · cases h

theorem optSome_rel {n : Nat} {ρ : ARho} {ρ' : Operand → Value} (hρ : RhoRel n ι H ρ ρ') {x : Option Operand} {v : Option AVal} (h : optSome ρ x = some v) : ORel n ι H v (x.map ρ') := by
  cases x with
  | none => simp [optSome] at h; subst h; exact .none
  | some x =>
    simp only [optSome] at h
    cases hx : ρ x with
    | none => simp [hx] at h
    | some y => simp [hx] at h; subst h; exact .some _ _ (hρ x y hx)

theorem sliceElem_some {t : TypeId} {j : TyI} (h : sliceElem E t = some j) : ∃ i e, E.ty t = some i ∧ i.desc = .slice e ∧ E.ty e = some j := by
  unfold sliceElem at h
  split at h
  · rename_i i hi
    split at h
    · rename_i e he; exact ⟨i, e, hi, he, h⟩
    · cases h
  · cases h
theorem arrayOf_some {t : TypeId} {p : Nat × TyI} (h : arrayOf E t = some p) : ∃ i e, E.ty t = some i ∧ i.desc = .array p.1 e ∧ E.ty e = some p.2 := by
  unfold arrayOf at h
  split at h
  · rename_i i hi
    split at h
    · rename_i n e he
      cases hj : E.ty e with
      | none => simp [hj] at h
      | some j => simp [hj] at h; subst h; exact ⟨i, e, hi, he, hj⟩
    · cases h
  · cases h
theorem fieldOf_some {t : TypeId} {f : Nat} {p : Nat × TyI} (h : fieldOf E t f = some p) : ∃ i fs fd, E.ty t = some i ∧ i.desc = .struct fs ∧ fs[f]? = some fd ∧ fd.offset = p.1 ∧ E.ty fd.type = some p.2 := by
  unfold fieldOf at h
  split at h
  · rename_i i hi
    split at h
    · rename_i fs he
      split at h
      · rename_i fd hfd
        cases hj : E.ty fd.type with
        | none => simp [hj] at h
        | some j => simp [hj] at h; subst h; exact ⟨i, fs, fd, hi, he, hfd, rfl, hj⟩
      · cases h
    · cases h
  · cases h
theorem mapOf_some {t : TypeId} {p : TyI × TyI} (h : mapOf E t = some p) : ∃ i k e, E.ty t = some i ∧ i.desc = .map k e ∧ E.ty k = some p.1 ∧ E.ty e = some p.2 := by
  unfold mapOf at h
  split at h
  · rename_i i hi
    split at h
    · rename_i k e he
      split at h
      · rename_i a b h1 h2; cases h; exact ⟨i, k, e, hi, he, h1, h2⟩
      · cases h
    · cases h
  · cases h

theorem run_max2 (big : Bool) (P : Program) : ∀ (xs : List AVal) (ws : List Value) (x : AVal) (x' : Value) {n : Nat} {v : AVal}, LRel n ι H xs ws → VRel n ι H x x' → xs.foldl (max2 big) (some x) = some v →
    ∃ v', (ws.foldlM (if big then Builtin.max2 else Builtin.min2) x' : Sem Value).run P w = .ok v' w ∧ VRel n ι H v v' := by
  intro xs
  induction xs with
  | nil =>
    intro ws x x' n v h hx hf
    cases h
    simp at hf
    subst hf
    exact ⟨x', by simp, hx⟩
  | cons y ys ih =>
    intro ws x x' n v h hx hf
    cases h with
    | cons _ y' _ ws hy hs =>
      simp only [List.foldl_cons] at hf
      have hnone : ∀ l : List AVal, l.foldl (max2 big) none = none := by
        intro l
        induction l with
        | nil => rfl
        | cons a l ih => simpa [max2] using ih
      cases hm : max2 big (some x) y with
      | none => rw [hm, hnone] at hf; cases hf
      | some z =>
        rw [hm] at hf
        unfold max2 at hm
        split at hm
        · rename_i _ _ k a k' b h1
          obtain rfl := Option.some.inj h1
          obtain rfl := hx.sc_inv
          obtain rfl := hy.sc_inv
          cases hm
          obtain ⟨v', r1, r2⟩ := ih ws _ (.int k (if big then (if b > a then b else a) else (if b < a then b else a))) hs (.sc _) hf
          refine ⟨v', ?_, r2⟩
          rw [← r1]
          cases big <;> simp [Builtin.max2, Builtin.min2]
        · cases hm

end
end Abs
