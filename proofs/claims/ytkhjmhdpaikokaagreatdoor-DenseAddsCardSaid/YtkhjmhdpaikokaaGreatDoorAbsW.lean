/- Part of the abstract layer; it proves no statement by itself. -/
import Derived.Test.YtkhjmhdpaikokaaGreatDoorAbsM
import Derived.RecoverIn
set_option linter.unusedVariables false
set_option linter.unusedSimpArgs false
set_option linter.unusedSectionVars false
noncomputable section
namespace Abs
open Go
section
variable {E:Env}
theorem AAct.Le.refl (a:AAct):a.Le a:=⟨rfl,rfl,fun _ _ h=>h⟩
def AWpN (E:Env) (c:Code) (Q:APred):Nat->AAct->AStore->Prop
 | 0,_,_=>False
 | n+1,a,σ=>AWp E c (AExit.then (AWpN E c Q n) Q) a σ
theorem AWp.loopN {c:Code} {Q:APred} {a:AAct} {σ:AStore} (n:Nat) (h:AWpN E c Q n a σ):AWp E (.loop c) Q a σ:=by
 refine AWp.loop (fun m a σ=>AWpN E c Q m a σ) n h ?_
 intro m a σ hm
 cases m with
 | zero=>exact hm.elim
 | succ m=>
  refine AWp.mono hm ?_
  intro e a σ hq
  cases e with
  | normal=>exact ⟨a,m,AAct.Le.refl a,by omega,hq⟩
  | _=>exact hq
def AScN (E:Env) (body:Code) (Q:APred):Nat->Code->AAct->AStore->Prop
  | 0,_,_,_=>False
  | n + 1, cur, a, σ => AWp E cur (fun e a σ =>
      match e with
      | .goto l=>(match findLabel body l with
        | some rest=>AScN E body Q n rest a σ
        | none=>Q (.goto l) a σ)
      | e=>Q e a σ) a σ
theorem stepR_scope {P:Program} {b:Frame} {a:Act} {k:List Item} {cs:List Frame} {w:World} {c:Code}:step P (lone (b.atR a (.code (.scope c)::k)) cs w)=.next (lone (b.atR a (.code c::.inScope c::k)) cs w):=
 step_lone_go (by simp [stepG,stepG.exec,Frame.atR])
theorem stepR_inScope {P:Program} {b:Frame} {a:Act} {k:List Item} {cs:List Frame} {w:World} {c:Code}:step P (lone (b.atR a (.inScope c::k)) cs w)=.next (lone (b.atR a k) cs w):=
 step_lone_go (by simp [stepG,stepG.exec,Frame.atR])
theorem AWp.scopeN {c:Code} {Q:APred} {a:AAct} {σ:AStore} (n:Nat) (h:AScN E c Q n c a σ):AWp E (.scope c) Q a σ:=by
  have key : ∀ (n : Nat) (cur : Code) (a : AAct) (σ : AStore), AScN E c Q n cur a σ → ∀ ι H w a', Rel E ι H σ w → ActRel σ.next ι H a a' → RdOk E.rd σ.next → ∀ (b : Frame) (k : List Item) (cs : List Frame),
      b.roundOf=(FR ι E.rd).round->∃ e a1 w1,APost E σ.next ι H Q e a1 w1/\ArrivesIn (Machine.fenced E.P (FR ι E.rd)) E.P (lone (b.atR a' (.code cur::.inScope c::k)) cs w) b k cs e a1 w1:=by
    intro n
    induction n with
    | zero=>intro cur a σ h; exact h.elim
    | succ n ih=>
      intro cur a σ h ι H w a' hR ha hrd b k cs hro
      have room:(FR ι E.rd).room (cs.length+1+0):=fun d hd=>by cases hd
      obtain ⟨e,a1,w1,hq,harr⟩:=h ι H w a' hR ha hrd b (.inScope c::k) cs hro trivial room
      obtain ⟨ι1,H1,σ1,a1',ae,hq,hx,ha1,hR1,he1⟩:=hq
      cases hx with
      | normal=>exact ⟨.normal,a1,w1,⟨ι1,H1,σ1,a1',_,hq,.normal,ha1,hR1,he1⟩,StepsIn.trans harr (.one (fenced_calm (n:=0) trivial room rfl) stepR_inScope)⟩
      | exit id=>exact ⟨.exit id,a1,w1,⟨ι1,H1,σ1,a1',_,hq,.exit id,ha1,hR1,he1⟩,fun k' hk=>harr.1 k' (by simp [exitTo,hk]),fun hs hk=>harr.2 hs (by simp [exitTo,hk])⟩
      | goto l=>
        simp only [] at hq
        cases hf:findLabel c l with
        | none=>
          rw [hf] at hq
          exact ⟨.goto l,a1,w1,⟨ι1,H1,σ1,a1',_,hq,.goto l,ha1,hR1,he1⟩,fun k' hk=>harr.1 k' (by simp [gotoIn,hf,hk]),fun hs hk=>harr.2 hs (by simp [gotoIn,hf,hk])⟩
        | some rest=>
          rw [hf] at hq
          have hg:gotoIn l (.inScope c::k)=some (.code rest::.inScope c::k):=by simp [gotoIn,hf]
          obtain ⟨e2,a2,w2,hq2,harr2⟩:=ih rest a1' σ1 hq ι1 H1 w1 a1 hR1 ha1 (hrd.ext he1) b k cs (by rw [FR_ext he1 hrd]; exact hro)
          rw [FR_ext he1 hrd] at harr2
          exact ⟨e2,a2,w2,APost.trans he1 hq2,.of_steps (harr.1 _ hg) harr2⟩
      | ret=>exact ⟨.ret,a1,w1,⟨ι1,H1,σ1,a1',_,hq,.ret,ha1,hR1,he1⟩,harr⟩
      | pan v v' hv=>exact ⟨_,a1,w1,⟨ι1,H1,σ1,a1',_,hq,.pan v v' hv,ha1,hR1,he1⟩,harr⟩
  intro ι H w a' hR ha hrd b k cs hro _ hroom
  obtain ⟨e,a1,w1,hq,harr⟩:=key n c a σ h ι H w a' hR ha hrd b k cs hro
  exact ⟨e,a1,w1,hq,.of_steps (.one (fenced_calm (n:=0) trivial hroom rfl) stepR_scope) harr⟩
def ACallsD (E:Env) (f:FuncId) (args:List AVal) (σ:AStore) (R:AEnd->AStore->Prop):Prop:=
 ∀ ι H w (args':List Value) (u:FrameMode),Rel E ι H σ w->LRel σ.next ι H args args'->
  CallsDIn Fence.wide 0 E.P f args'.toArray u w fun e u' w'=>u'=u/\∃ ι' H' σ' ae,R ae σ'/\EndRel σ'.next ι' H' ae e/\Rel E ι' H' σ' w'/\Ext σ.next ι H σ'.next ι' H'
theorem ACallsD.of_wp (hrd : E.rd = none) {f : FuncId} {fn : Func} {c : Code} {args : List AVal} {σ : AStore} {R : AEnd → AStore → Prop} (hf : E.P.funcs[f]? = some fn) (hb : fn.body = some c) (hn : args.length ≤ fn.ntmps) (hl : args.length < 1000)
    (h:AWp E c (aEnd E fn R) (aInit args fn.ntmps) σ):ACallsD E f args σ R:=by
  intro ι H w args' u hR hargs
  have ha:=aInit_rel hargs hn hl
  refine callsDIn_of_wp hf hb trivial ?_
  have hw:=h ι H w _ hR ha (fun b hb=>by rw [hrd] at hb; cases hb)
  rw [hrd,FR_none] at hw
  refine wpIn_mono (by simpa using hw) ?_
  rintro e a1 w1 ⟨ι1,H1,σ1,a1',ae,hq,hx,ha1,hR1,he1⟩
  have fin : ∀ ae, aEnd E fn R ae a1' σ1 → (ae = .normal ∨ ae = .ret) → a1.defers = [] ∧ ∃ v, (results fn a1.tmps).run E.P w1 = .ok v w1 ∧
      ∃ ι' H' σ' ae,R ae σ'/\EndRel σ'.next ι' H' ae (.returned v)/\Rel E ι' H' σ' w1/\Ext σ.next ι H σ'.next ι' H':=by
    intro ae hq hae
    have hq':a1'.defers=[]/\∃ v,aResult E fn.results.toList a1' σ1=some v/\R (.ret v) σ1:=by rcases hae with rfl|rfl<;>exact hq
    obtain ⟨hd,v,hr,hRv⟩:=hq'
    have hd':=ha1.defers
    rw [hd] at hd'
    obtain ⟨v',r1,r2⟩:=aResult_sound hR1 ha1 hr
    exact ⟨hd'.nil_inv,v',r1,ι1,H1,σ1,.ret v,hRv,.ret v v' r2,hR1,he1⟩
  cases hx with
  | normal=>exact fin _ hq (.inl rfl)
  | ret=>exact fin _ hq (.inr rfl)
  | exit id=>exact hq.elim
  | goto l=>exact hq.elim
  | pan v v' hv=>
    obtain ⟨hd,hRv⟩:=hq
    have hd':=ha1.defers
    rw [hd] at hd'
    exact ⟨hd'.nil_inv,ι1,H1,σ1,.pan v,hRv,.pan v v' hv,hR1,he1⟩
inductive ModeRel (n:Nat) (ι:Inj) (H:Imm):Option AVal->FrameMode->Prop
 | ret:ModeRel n ι H none .returning
 | pan (v:AVal) (w:Value) (h:VRel n ι H v w):ModeRel n ι H (some v) (.panicking [{v:=w,recovered:=false}])
theorem ModeRel.ext {n n':Nat} {ι ι':Inj} {H H':Imm} (he:Ext n ι H n' ι' H') {m:Option AVal} {u:FrameMode} (h:ModeRel n ι H m u):ModeRel n' ι' H' m u:=by
 cases h with
 | ret=>exact .ret
 | pan v w h=>exact .pan v w (h.ext he)
def ACallsM (E:Env) (f:FuncId) (args:List AVal) (m:Option AVal) (σ:AStore) (R:AEnd->Option AVal->AStore->Prop):Prop:=
 ∀ ι H w (args':List Value) (u:FrameMode),Rel E ι H σ w->LRel σ.next ι H args args'->ModeRel σ.next ι H m u->
  CallsDIn Fence.wide 0 E.P f args'.toArray u w fun e u' w'=>∃ ι' H' σ' ae m',R ae m' σ'/\EndRel σ'.next ι' H' ae e/\Rel E ι' H' σ' w'/\Ext σ.next ι H σ'.next ι' H'/\
   (match ae with|.ret _=>ModeRel σ'.next ι' H' m' (settle u')|.pan _=>u'=u)
theorem ACallsM.mono {f:FuncId} {args:List AVal} {m:Option AVal} {σ:AStore} {R R':AEnd->Option AVal->AStore->Prop} (h:ACallsM E f args m σ R) (hr:∀ e m σ,R e m σ->R' e m σ):ACallsM E f args m σ R':=
 fun ι H w args' u hR ha hm=>CallsDIn.mono (h ι H w args' u hR ha hm) fun _ _ _ ⟨ι',H',σ',ae,m',h1,h2⟩=>⟨ι',H',σ',ae,m',hr _ _ _ h1,h2⟩
theorem ACallsM.of_D {f:FuncId} {args:List AVal} {m:Option AVal} {σ:AStore} {R:AEnd->AStore->Prop} (h:ACallsD E f args σ R):ACallsM E f args m σ fun e m' σ'=>m'=m/\R e σ':=by
 intro ι H w args' u hR ha hm
 refine CallsDIn.mono (h ι H w args' u hR ha) ?_
 rintro e u' w' ⟨rfl,ι',H',σ',ae,h1,h2,h3,h4⟩
 refine ⟨ι',H',σ',ae,m,⟨rfl,h1⟩,h2,h3,h4,?_⟩
 cases ae with
 | pan v=>rfl
 | ret v=>
  have hset:settle u'=u':=by cases hm<;>rfl
  show ModeRel σ'.next ι' H' m (settle u')
  rw [hset]
  exact hm.ext h4
inductive Md where
 | norm
 | pan (v:AVal)
 | cau
def Md.start:Option AVal->Md
 | none=>.norm
 | some v=>.pan v
def Md.after:Md->Option AVal
 | .norm=>none
 | .pan v=>some v
 | .cau=>none
inductive MdRel (n:Nat) (ι:Inj) (H:Imm):Md->FrameMode->Prop
 | norm:MdRel n ι H .norm .returning
 | pan (v:AVal) (w:Value) (h:VRel n ι H v w):MdRel n ι H (.pan v) (.panicking [{v:=w,recovered:=false}])
 | cau (w:Value):MdRel n ι H .cau (.panicking [{v:=w,recovered:=true}])
theorem MdRel.ext {n n':Nat} {ι ι':Inj} {H H':Imm} (he:Ext n ι H n' ι' H') {m:Md} {u:FrameMode} (h:MdRel n ι H m u):MdRel n' ι' H' m u:=by
 cases h with
 | norm=>exact .norm
 | pan v w h=>exact .pan v w (h.ext he)
 | cau w=>exact .cau w
theorem MdRel.start {n:Nat} {ι:Inj} {H:Imm} {m:Option AVal} {u:FrameMode} (h:ModeRel n ι H m u):MdRel n ι H (Md.start m) u:=by
 cases h with
 | ret=>exact .norm
 | pan v w h=>exact .pan v w h
theorem MdRel.after {n:Nat} {ι:Inj} {H:Imm} {m:Md} {u:FrameMode} (h:MdRel n ι H m u):ModeRel n ι H m.after (settle u):=by
 cases h with
 | norm=>exact .ret
 | pan v w h=>exact .pan v w h
 | cau w=>exact .ret
def aOpsM (E:Env) (ops:Array Oper) (K:Md->AAct->AStore->Prop):List Nat->Md->AAct->AStore->Prop
 | [],md,a,σ=>K md a σ
 | i::rest,md,a,σ=>
  match ops[i]? with
  | none=>False
  | some o=>
   o.guard=none/\a.fits o.dst=true/\
   match aOp E false o.op (a.ev E.G) σ with
   | .recov=>
    match md with
    | .pan v=>aOpsM E ops K rest .cau (a.put o.dst (some v)) σ
    | md=>aOpsM E ops K rest md (a.put o.dst (some (.sc .nilIface))) σ
   | .val v σ'=>aOpsM E ops K rest md (a.put o.dst (some v)) σ'
   | .skip σ'=>aOpsM E ops K rest md (a.put o.dst (some undefA)) σ'
   | _=>False
def aEndM (E:Env) (fn:Func) (R:AEnd->Option AVal->AStore->Prop) (md:Md):APred
 | .normal,a,σ|.ret,a,σ=>a.defers=[]/\∃ v,aResult E fn.results.toList a σ=some v/\R (.ret v) md.after σ
 | .pan v,a,σ=>a.defers=[]/\(match md with|.norm=>True|_=>False)/\R (.pan v) none σ
 | _,_,_=>False
theorem aOpsM_sound {fn : Func} {rest : Code} {R : AEnd → Option AVal → AStore → Prop} (hrd : E.rd = none) {ops : Array Oper} {c₀ : Frame} {cs : List Frame} {n0 : Nat} {ι0 : Inj} {H0 : Imm} {u0 : FrameMode} :
    ∀ (l:List Nat) (md:Md) (a:AAct) (σ:AStore) (ι:Inj) (H:Imm) (w:World) (a':Act) (u:FrameMode),Rel E ι H σ w->ActRel σ.next ι H a a'->MdRel σ.next ι H md u->(md=.norm->u=u0)->Ext n0 ι0 H0 σ.next ι H->
      aOpsM E ops (fun md a σ=>AWp E rest (aEndM E fn R md) a σ) l md a σ->
      wpOpsSIn Fence.wide 0 E.P ops (Exit.thenS (rest.wpSIn Fence.wide 0 E.P (bodyPostS E.P fn c₀ cs fun e u' w' => ∃ ι' H' σ' ae m', R ae m' σ' ∧ EndRel σ'.next ι' H' ae e ∧ Rel E ι' H' σ' w' ∧ Ext n0 ι0 H0 σ'.next ι' H' ∧
          (match ae with|.ret _=>ModeRel σ'.next ι' H' m' (settle u')|.pan _=>u'=u0)))
        (bodyPostS E.P fn c₀ cs fun e u' w'=>∃ ι' H' σ' ae m',R ae m' σ'/\EndRel σ'.next ι' H' ae e/\Rel E ι' H' σ' w'/\Ext n0 ι0 H0 σ'.next ι' H'/\
          (match ae with|.ret _=>ModeRel σ'.next ι' H' m' (settle u')|.pan _=>u'=u0))) l a' ({c₀ with mode:=u}::cs) w
  | [], md, a, σ, ι, H, w, a', u, hR, ha, hm, hu, he, h => by
      show Exit.thenS _ _ .normal a' _ w
      simp only [Exit.thenS]
      refine wpSIn_of_wpIn rfl ?_
      have hw:=h ι H w a' hR ha (fun b hb=>by rw [hrd] at hb; cases hb)
      rw [hrd,FR_none] at hw
      refine wpIn_mono hw ?_
      rintro e a1 w1 ⟨ι1,H1,σ1,a1',ae,hq,hx,ha1,hR1,he1⟩
      have fin : ∀ ae, aEndM E fn R md ae a1' σ1 → (ae = .normal ∨ ae = .ret) → a1.defers = [] ∧ ∃ u', ({ c₀ with mode := u } :: cs) = { c₀ with mode := u' } :: cs ∧ ∃ v, (results fn a1.tmps).run E.P w1 = .ok v w1 ∧
          ∃ ι' H' σ' ae m',R ae m' σ'/\EndRel σ'.next ι' H' ae (.returned v)/\Rel E ι' H' σ' w1/\Ext n0 ι0 H0 σ'.next ι' H'/\(match ae with|.ret _=>ModeRel σ'.next ι' H' m' (settle u')|.pan _=>u'=u0):=by
        intro ae hq hae
        have hq':a1'.defers=[]/\∃ v,aResult E fn.results.toList a1' σ1=some v/\R (.ret v) md.after σ1:=by rcases hae with rfl|rfl<;>exact hq
        obtain ⟨hd,v,hr,hRv⟩:=hq'
        have hd':=ha1.defers
        rw [hd] at hd'
        obtain ⟨v',r1,r2⟩:=aResult_sound hR1 ha1 hr
        exact ⟨hd'.nil_inv,u,rfl,v',r1,ι1,H1,σ1,.ret v,md.after,hRv,.ret v v' r2,hR1,he.trans he1,(hm.ext he1).after⟩
      cases hx with
      | normal=>exact fin _ hq (.inl rfl)
      | ret=>exact fin _ hq (.inr rfl)
      | exit id=>exact hq.elim
      | goto l=>exact hq.elim
      | pan v v' hv=>
        obtain ⟨hd,hmd,hRv⟩:=hq
        have hd':=ha1.defers
        rw [hd] at hd'
        refine ⟨hd'.nil_inv,u,rfl,ι1,H1,σ1,.pan v,none,hRv,.pan v v' hv,hR1,he.trans he1,?_⟩
        cases md with
        | norm=>exact hu rfl
        | pan _=>exact hmd.elim
        | cau=>exact hmd.elim
  | i :: r, md, a, σ, ι, H, w, a', u, hR, ha, hm, hu, he, h => by
      unfold aOpsM at h
      unfold wpOpsSIn
      cases ho:ops[i]? with
      | none=>rw [ho] at h; exact h.elim
      | some o=>
        rw [ho] at h
        simp only [] at h ⊢
        obtain ⟨hg,hfit,h⟩:=h
        have hwant:Region.wanted o (yielded ops a'.tmps)=true:=by simp [Region.wanted,hg]
        refine ⟨fun _ _=>trivial,?_⟩
        rw [if_pos hwant]
        have hsnd:=aOp_sound hR (ha.rho hR) false o
        split at h
        · rename_i hop
          rw [hop] at hsnd
          have hsnd:(execOp a'.eval o).run E.P w=.ok .recover w:=hsnd
          rw [hsnd]
          simp only []
          have put:∀ (v:AVal) (v':Value),VRel σ.next ι H v v'->ActRel σ.next ι H (a.put o.dst (some v)) (a'.put o.dst v'):=fun v v' hv=>ha.put hfit hv
          cases hm with
          | norm=>
            have:recoverD ({c₀ with mode:=.returning}::cs)=none:=rfl
            rw [this]
            exact aOpsM_sound hrd r .norm _ σ ι H w _ .returning hR (put _ _ (.sc _)) .norm hu he h
          | pan v v' hv=>
            have:recoverD ({c₀ with mode:=.panicking [{v:=v',recovered:=false}]}::cs)=some (v',{c₀ with mode:=.panicking [{v:=v',recovered:=true}]}::cs):=rfl
            rw [this]
            exact aOpsM_sound hrd r .cau _ σ ι H w _ _ hR (put _ _ hv) (.cau v') (fun hh=>by cases hh) he h
          | cau v'=>
            have:recoverD ({c₀ with mode:=.panicking [{v:=v',recovered:=true}]}::cs)=none:=rfl
            rw [this]
            exact aOpsM_sound hrd r .cau _ σ ι H w _ _ hR (put _ _ (.sc _)) (.cau v') (fun hh=>by cases hh) he h
        · rename_i v σ' hop
          rw [hop] at hsnd
          obtain ⟨v',w1,ι1,H1,hr,hv,hR1,he1⟩:=hsnd
          rw [hr]
          exact aOpsM_sound hrd r md _ σ' ι1 H1 w1 _ u hR1 ((ha.ext he1).put hfit hv) (hm.ext he1) hu (he.trans he1) h
        · rename_i σ' hop
          rw [hop] at hsnd
          obtain ⟨w1,hr,hR1,hn⟩:=hsnd
          rw [hr]
          refine aOpsM_sound hrd r md _ σ' ι H w1 _ u hR1 ?_ (by rw [hn]; exact hm) hu (by rw [hn]; exact he) h
          rw [hn]
          exact ha.put hfit undefA_rel
        · exact h.elim
theorem ACallsM.of_wpR (hrd:E.rd=none) {f:FuncId} {fn:Func} {id:Nat} {ops:Array Oper} {rest:Code} {args:List AVal} {m:Option AVal} {σ:AStore} {R:AEnd->Option AVal->AStore->Prop} (hf:E.P.funcs[f]?=some fn)
  (hb:fn.body=some (.seq (.region id ops false) rest)) (hn:args.length<=fn.ntmps) (hl:args.length < 1000)
  (h:aOpsM E ops (fun md a σ=>AWp E rest (aEndM E fn R md) a σ) (List.range ops.size) (Md.start m) (aInit args fn.ntmps) σ):ACallsM E f args m σ R:=by
 intro ι H w args' u hR hargs hm
 have ha:=aInit_rel hargs hn hl
 refine callsDIn_of_wpSIn hf hb trivial ?_
 intro c₀ cs hc
 have hc0:c₀={c₀ with mode:=u}:=by rw [<-hc]
 refine wpSIn_seq (wpSIn_region ?_)
 rw [hc0]
 refine aOpsM_sound (u0:=u) hrd (List.range ops.size) (Md.start m) _ σ ι H w _ u hR (by simpa using ha) (MdRel.start hm) (fun _=>rfl) (Ext.refl _ _ _) h
def ALeaves (E:Env) (fn:Func) (a:AAct) (R:AEnd->AStore->Prop):List ADef->Option AVal->AStore->Prop
 | [],none,σ=>∃ v,aResult E fn.results.toList a σ=some v/\R (.ret v) σ
 | [],some v,σ=>R (.pan v) σ
 | d::ds,m,σ=>
  match d.fn with
  | .yield b=>σ.get b=some .dfd/\ALeaves E fn a R ds m (σ.del b)
  | .func g=>E.fns g=true/\ACallsM E g (d.args++d.cap) m σ fun e m' σ'=>
   match e,m with
   | .ret _,_=>ALeaves E fn a R ds m' σ'
   | .pan v,none=>ALeaves E fn a R ds (some v) σ'
   | .pan _,some _=>False
  | _=>False
theorem ALeaves.sound {fn : Func} {R : AEnd → AStore → Prop} {n0 : Nat} {ι0 : Inj} {H0 : Imm} {a : AAct} {a' : Act} : ∀ (ds : List ADef) (ds' : List Deferred) (m : Option AVal) (u : FrameMode) (σ : AStore) (ι : Inj) (H : Imm) (w : World),
    Rel E ι H σ w->ActRel σ.next ι H a a'->DefsRel σ.next ι H ds ds'->ModeRel σ.next ι H m u->Ext n0 ι0 H0 σ.next ι H->ALeaves E fn a R ds m σ->
    LeavesInM Fence.wide 0 E.P fn a'.tmps (fun e w'=>∃ ι' H' σ' ae,R ae σ'/\EndRel σ'.next ι' H' ae e/\Rel E ι' H' σ' w'/\Ext n0 ι0 H0 σ'.next ι' H') ds' u w
  | [], ds', m, u, σ, ι, H, w, hR, ha, hds, hm, he, h => by
      cases hds
      cases hm with
      | ret=>
        obtain ⟨v,hr,hv⟩:=h
        obtain ⟨v',r1,r2⟩:=aResult_sound hR ha hr
        exact ⟨v',r1,ι,H,σ,.ret v,hv,.ret v v' r2,hR,he⟩
      | pan v v' hv=>exact ⟨ι,H,σ,.pan v,h,.pan v v' hv,hR,he⟩
  | d :: ds, ds', m, u, σ, ι, H, w, hR, ha, hds, hm, he, h => by
      have hne:u≠.run:=by cases hm<;>simp
      cases hds with
      | mark b _ ds' hb hs=>
        obtain ⟨hg,hrest⟩:=h
        obtain ⟨⟨z,hh⟩,_,hsz⟩:=hR.live b _ hg
        refine ⟨hne,.inl ⟨(ι b).blk,_,rfl,?_,ALeaves.sound ds ds' m u (σ.del b) ι H {w with heap:=w.heap.setIfInBounds (ι b).blk (.deferred none)} (hR.give hg (by simp)) ha hs hm he hrest⟩⟩
        have hgo:(getObj (ι b).blk).run E.P w=.ok (.deferred (some [])) w:=by simp [getObj,Sem.run,hh]
        have hset:=fun o=>run_setObj' (P:=E.P) hh (by simp) o
        simp [Instr.takeDeferred,hgo,hset]
      | cons _ d' _ ds' hd hs=>
        obtain ⟨⟨cap',ht,hcap⟩,⟨args',hargs,hla⟩,⟨g,hg⟩⟩:=hd
        simp only [ALeaves,hg] at h
        obtain ⟨hfn,hc⟩:=h
        refine ⟨hne,.inr ⟨(fun hh=>by cases hh),d.fn,cap'.toArray,g,(args'++cap').toArray,ht,?_,fun _ _=>trivial,?_⟩⟩
        · rw [ht,hargs,hg]
          simp only [invoke]
          rw [run_callFunc hfn]
          simp
        · refine CallsDIn.mono (hc ι H w (args'++cap') u hR (hla.append hcap) hm) ?_
          rintro e u' w1 ⟨ι1,H1,σ1,ae,m',hq,hx,hR1,he1,hu⟩
          cases hx with
          | ret v v' hv=>
            exact ALeaves.sound ds ds' m' (settle u') σ1 ι1 H1 w1 hR1 (ha.ext he1) (hs.ext he1) hu (he.trans he1) hq
          | pan v v' hv=>
            have hu:u'=u:=hu
            subst hu
            cases hm with
            | ret=>exact ALeaves.sound ds ds' (some v) _ σ1 ι1 H1 w1 hR1 (ha.ext he1) (hs.ext he1) (.pan v v' hv) (he.trans he1) hq
            | pan=>exact hq.elim
def aEndD (E:Env) (fn:Func) (R:AEnd->AStore->Prop):APred
 | .normal,a,σ|.ret,a,σ=>ALeaves E fn a R a.defers none σ
 | .pan v,a,σ=>ALeaves E fn a R a.defers (some v) σ
 | _,_,_=>False
theorem ACalls.of_wpD (hrd:E.rd=none) {f:FuncId} {fn:Func} {c:Code} {args:List AVal} {σ:AStore} {R:AEnd->AStore->Prop} (hf:E.P.funcs[f]?=some fn) (hb:fn.body=some c) (hn:args.length<=fn.ntmps) (hl:args.length < 1000)
  (h:AWp E c (aEndD E fn R) (aInit args fn.ntmps) σ):ACalls E f args σ R:=by
 intro ι H w args' hR hargs
 have ha:=aInit_rel hargs hn hl
 refine (callsIn_wide (n:=0)).1 (callsIn_of_wp_marks hf hb trivial ?_)
 have hw:=h ι H w _ hR ha (fun b hb=>by rw [hrd] at hb; cases hb)
 rw [hrd,FR_none] at hw
 refine wpIn_mono (by simpa using hw) ?_
 rintro e a1 w1 ⟨ι1,H1,σ1,a1',ae,hq,hx,ha1,hR1,he1⟩
 cases hx with
 | normal=>exact ALeaves.sound _ _ none _ σ1 ι1 H1 w1 hR1 ha1 ha1.defers .ret he1 hq
 | ret=>exact ALeaves.sound _ _ none _ σ1 ι1 H1 w1 hR1 ha1 ha1.defers .ret he1 hq
 | exit id=>exact hq.elim
 | goto l=>exact hq.elim
 | pan v v' hv=>exact ALeaves.sound _ _ (some v) _ σ1 ι1 H1 w1 hR1 ha1 ha1.defers (.pan v v' hv) he1 hq
def aRangePost (Q:APred) (a:AAct) (l:Nat):AEnd->AStore->Prop
  | .ret _, σ => ∃ st pend ps as bd tm nt d, σ.get l = some (.loop st pend ps as bd tm nt d) ∧ (match st with | .busy => False | _ => True) ∧
      (match pend with
       | none=>Q .normal a (σ.set l (.loop .exhausted pend ps as bd tm nt d))
       | some .ret=>Q .ret a (σ.set l (.loop .exhausted pend ps as bd tm nt d))
       | some (.exit id)=>Q (.exit id) a (σ.set l (.loop .exhausted pend ps as bd tm nt d))
       | some (.goto t)=>Q (.goto t) a (σ.set l (.loop .exhausted pend ps as bd tm nt d))
       | _=>False)
  | .pan v,σ=>Q (.pan v) a σ
def aRangeF (E:Env) (Q:APred) (ps:Array Tmp) (as bd:Code) (a:AAct) (σ:AStore) (f:FuncId) (first cap:List AVal):Prop:=
  match E.rd with
  | none=>ACalls E f (first++[.yld (σ.next+1)]++cap) ((σ.alloc .dfd).alloc (.loop .ready none ps as bd a.tmps a.n σ.next)) (aRangePost Q {a with defers:=⟨.yield σ.next,[],[]⟩::a.defers} (σ.next+1))
  | some l0 => ∃ st pend ps0 as0 bd0 tm nt d, σ.get l0 = some (.loop st pend ps0 as0 bd0 tm nt d) ∧
      ACalls E f (first++[.yld σ.next]++cap) (σ.alloc (.loop .ready none ps as bd a.tmps a.n d)) (aRangePost Q a σ.next)
theorem aRangePost_sound {Q : APred} {a : AAct} {a' : Act} {l : Nat} {n0 : Nat} {ι0 : Inj} {H0 : Imm} {ιr : Inj} {ι : Inj} {H : Imm} {σ : AStore} {w : World} {ae : AEnd} {e : Ending} (h : aRangePost Q a l ae σ)
    (hx:EndRel σ.next ι H ae e) (hR:Rel E ι H σ w) (ha:ActRel σ.next ι H a a') (he:Ext n0 ι0 H0 σ.next ι H):rangePost (FR ιr E.rd) 0 E.P (ι l).blk (APost E n0 ι0 H0 Q) a' e w:=by
  cases hx with
  | pan v v' hv=>exact ⟨ι,H,σ,a,_,h,.pan v v' hv,ha,hR,he⟩
  | ret v v' hv=>
    obtain ⟨st,pend,ps,as,bd,tm,nt,d,hg,hst,hp⟩:=h
    obtain ⟨fn,tmps,q1,q2⟩:=hR.set_loop hg .exhausted pend
    refine ⟨pend,{w with heap:=w.heap.setIfInBounds (ι l).blk (.loop ⟨.exhausted,pend,fn,tmps,ps,as,bd,(ι d).blk⟩)},?_,?_⟩
    · have hgo:(getObj (ι l).blk).run E.P w=.ok (.loop ⟨st,pend,fn,tmps,ps,as,bd,(ι d).blk⟩) w:=by simp [getObj,Sem.run,q1]
      have hset:=fun o=>run_setObj' (P:=E.P) q1 (by simp) o
      cases st<;>first
        | exact hst.elim
        | (simp only [Instr.endLoop, Instr.getLoop, Sem.run_bind, hgo, Result.andThen_ok, Sem.run_pure]
           rw [if_neg (by decide)]
           simp [hset])
    · cases pend with
      | none=>exact ⟨ι,H,_,a,_,hp,.normal,ha,q2,he⟩
      | some c=>
        cases c with
        | ret=>exact wpIn_ret ⟨ι,H,_,a,_,hp,.ret,ha,q2,he⟩
        | exit id=>exact wpIn_exit ⟨ι,H,_,a,_,hp,.exit id,ha,q2,he⟩
        | goto t=>exact wpIn_goto ⟨ι,H,_,a,_,hp,.goto t,ha,q2,he⟩
        | _=>exact hp.elim
theorem AWp.rangeFunc {g : Operand} {ps : Array Tmp} {as bd : Code} {Q : APred} {a : AAct} {σ : AStore} {f : FuncId} {first cap : List AVal} (hg : a.ev E.G g = some (.func (.func f) first cap)) (hfn : E.fns f = true)
    (h:aRangeF E Q ps as bd a σ f first cap):AWp E (.rangeFunc g ps as bd) Q a σ:=by
  intro ι H w a' hR ha hr
  obtain ⟨fs',cs',he,hfs,hcs⟩:=(ha.rho hR g _ hg).func_inv
  refine wpIn_rangeFunc ?_
  intro fn _
  have tail : ∀ (l : Nat) (w1 : World), (resolve a'.eval (rangeCall g l) 0).run E.P w1 = .ok { target := .fn (.func f) cs'.toArray, args := (fs' ++ [Value.func (.yield l) #[] #[]]).toArray } w1 ∧
      (invoke (.fn (.func f) cs'.toArray) (fs'++[Value.func (.yield l) #[] #[]]).toArray).run E.P w1=.ok (.enter f ((fs'++[Value.func (.yield l) #[] #[]])++cs').toArray) w1:=by
    intro l w1
    refine ⟨?_,?_⟩
    · have hc:∀ v,a'.eval (.const v)=v:=fun _=>rfl
      simp [resolve,he,Deferred.ofValue,hc]
    · simp only [invoke]
      rw [run_callFunc hfn]
      simp
  unfold aRangeF at h
  split at h
  · rename_i hrd
    have hd1:BlkRel σ.next ι H {w with heap:=w.heap.push (.deferred (some []))} ⟨w.heap.size,0,0,0,0⟩ .dfd:=⟨rfl,by simp⟩
    have hR1:=hR.alloc (p:=⟨w.heap.size,0,0,0,0⟩) rfl hd1
    have he1:Ext σ.next ι H (σ.next+1) (upd ι σ.next ⟨w.heap.size,0,0,0,0⟩) H:=Ext.upd _ _ _ _
    have ha1:=ha.ext he1
    have hd2 : BlkRel (σ.alloc .dfd).next (upd ι σ.next ⟨w.heap.size, 0, 0, 0, 0⟩) H { w with heap := (w.heap.push (.deferred (some []))).push (.loop ⟨.ready, none, fn, a'.tmps, ps, as, bd, w.heap.size⟩) } ⟨w.heap.size + 1, 0, 0, 0, 0⟩
        (.loop .ready none ps as bd a.tmps a.n σ.next):=by
      refine ⟨rfl,Nat.lt_succ_self _,fn,a'.tmps,?_,ha.size,fun t v ht=>ha1.tmps t v ht⟩
      rw [upd_self]
      show ((w.heap.push _).push _)[w.heap.size+1]?=_
      rw [Array.getElem?_push]
      simp
    have hR2:=hR1.alloc (p:=⟨w.heap.size+1,0,0,0,0⟩) (by simp) hd2
    have he2:=he1.trans (Ext.upd (σ.next+1) (upd ι σ.next ⟨w.heap.size,0,0,0,0⟩) H ⟨w.heap.size+1,0,0,0,0⟩)
    obtain ⟨t1,t2⟩:=tail (w.heap.size+1) {w with heap:=(w.heap.push (.deferred (some []))).push (.loop ⟨.ready,none,fn,a'.tmps,ps,as,bd,w.heap.size⟩)}
    refine ⟨w.heap.size+1,[{target:=.collected w.heap.size,args:=#[]}],_,_,_,f,_,_,?_,t1,fun _ _=>trivial,t2,(fun hh=>by cases hh),?_⟩
    · simp [FR,hrd,Instr.enterLoop,newObj,Sem.run]; rfl
    · have hy:VRel (σ.next+1+1) (upd (upd ι σ.next ⟨w.heap.size,0,0,0,0⟩) (σ.next+1) ⟨w.heap.size+1,0,0,0,0⟩) H (.yld (σ.next+1)) (.func (.yield (w.heap.size+1)) #[] #[]):=by
        have:=VRel.yld (n:=σ.next+1+1) (ι:=upd (upd ι σ.next ⟨w.heap.size,0,0,0,0⟩) (σ.next+1) ⟨w.heap.size+1,0,0,0,0⟩) (H:=H) (σ.next+1) (Nat.lt_succ_self _)
        rwa [upd_self] at this
      refine callsIn_FR (Calls.mono (h _ H _ _ hR2 (((hfs.ext he2).append (.cons _ _ _ _ hy .nil)).append (hcs.ext he2))) ?_)
      rintro e w3 ⟨ι3,H3,σ3,ae,hq,hx,hR3,he3⟩
      have hl:(ι3 (σ.next+1)).blk=w.heap.size+1:=by
        have:=he3.inj (σ.next+1) (show σ.next+1 < σ.next+1+1 by omega)
        rw [this]
        show (upd _ (σ.next+1) _ (σ.next+1)).blk=_
        rw [upd_self]
      have hdm:(ι3 σ.next).blk=w.heap.size:=by
        have:=he3.inj σ.next (show σ.next < σ.next+1+1 by omega)
        rw [this]
        show (upd _ (σ.next+1) _ σ.next).blk=_
        have h0:σ.next≠σ.next+1:=by omega
        rw [upd_ne _ _ h0,upd_self]
      have ha3:=(ha.ext he2).ext he3
      have ha3':ActRel σ3.next ι3 H3 {a with defers:=⟨.yield σ.next,[],[]⟩::a.defers} {a' with defers:={target:=.collected w.heap.size,args:=#[]}::a'.defers}:=
        ⟨ha3.size,ha3.tmps,by rw [<-hdm]; exact .mark _ _ _ (Nat.lt_of_lt_of_le (show σ.next < σ.next+1+1 by omega) he3.next) ha3.defers⟩
      have:=aRangePost_sound (ιr:=ι) hq hx hR3 ha3' (he2.trans he3)
      rw [hl] at this
      exact this
  · rename_i l0 hrd
    obtain ⟨st,pend,ps0,as0,bd0,tm,nt,d,hg0,hcall⟩:=h
    obtain ⟨z,hd,fn0,tmps0,g1,g2,g3⟩:=(hR.live l0 _ hg0).1
    have hd2 : BlkRel σ.next ι H { w with heap := w.heap.push (.loop ⟨.ready, none, fn, a'.tmps, ps, as, bd, (ι d).blk⟩) } ⟨w.heap.size, 0, 0, 0, 0⟩
        (.loop .ready none ps as bd a.tmps a.n d):=⟨rfl,hd,fn,a'.tmps,by simp,ha.size,fun t v ht=>ha.tmps t v ht⟩
    have hR2:=hR.alloc (p:=⟨w.heap.size,0,0,0,0⟩) rfl hd2
    have he2:Ext σ.next ι H (σ.next+1) (upd ι σ.next ⟨w.heap.size,0,0,0,0⟩) H:=Ext.upd _ _ _ _
    obtain ⟨t1,t2⟩:=tail w.heap.size {w with heap:=w.heap.push (.loop ⟨.ready,none,fn,a'.tmps,ps,as,bd,(ι d).blk⟩)}
    refine ⟨w.heap.size,[],_,_,_,f,_,_,?_,t1,fun _ _=>trivial,t2,(fun hh=>by cases hh),?_⟩
    · simp [FR,hrd,Instr.enterLoop,Instr.getLoop,getObj,newObj,Sem.run,g1]
    · have hy:VRel (σ.next+1) (upd ι σ.next ⟨w.heap.size,0,0,0,0⟩) H (.yld σ.next) (.func (.yield w.heap.size) #[] #[]):=by
        have:=VRel.yld (n:=σ.next+1) (ι:=upd ι σ.next ⟨w.heap.size,0,0,0,0⟩) (H:=H) σ.next (Nat.lt_succ_self _)
        rwa [upd_self] at this
      refine callsIn_FR (Calls.mono (hcall _ H _ _ hR2 (((hfs.ext he2).append (.cons _ _ _ _ hy .nil)).append (hcs.ext he2))) ?_)
      rintro e w3 ⟨ι3,H3,σ3,ae,hq,hx,hR3,he3⟩
      have hl:(ι3 σ.next).blk=w.heap.size:=by
        have:=he3.inj σ.next (show σ.next < σ.next+1 by omega)
        rw [this]
        show (upd _ σ.next _ σ.next).blk=_
        rw [upd_self]
      have:=aRangePost_sound (ιr:=ι) hq hx hR3 ((ha.ext he2).ext he3) (he2.trans he3)
      rw [hl] at this
      exact this
end
end Abs
end
