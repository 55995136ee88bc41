/- Part of the abstract layer; it proves no statement by itself. -/
import Derived.Test.YtkhjmhdpaikokaaGreatDoorAbsX
import Derived.Test.YtkhjmhdpaikokaaGreatDoorAbsXA
import Derived.Test.YtkhjmhdpaikokaaGreatDoorAbsM
import Derived.Test.YtkhjmhdpaikokaaGreatDoorAbsV4
set_option linter.unusedVariables false
set_option linter.unusedSimpArgs false
set_option linter.unusedSectionVars false
noncomputable section
namespace Abs
open Go
structure FTab where
 fn:FuncId->Option Func
 ctr:FuncId->List AVal->Option (List AEnd)
 pure:FuncId->Bool
 /-- Called with arguments that no one writes any more. -/
 fz:FuncId->Bool
 /-- Lent its arguments; and what is known of such calls. -/
 tz:FuncId->Bool
 ctrT:FuncId->List AVal->Option (List AEnd)
structure FOk (E:Env) (F:FTab):Prop where
 fn:∀ f fn,F.fn f=some fn->E.P.funcs[f]?=some fn
 ctr:∀ f args ends,F.ctr f args=some ends->∀ σ,ACalls E f args σ fun e σ'=>σ'=σ/\e∈ends
 glob:∀ g,WF 0 (E.G g)
 ctrT:∀ f args ends,F.ctrT f args=some ends->∀ σ bs M args1,mapO (frz (AStore.only σ bs) M) args1=some args->ACalls E f args1 σ fun e σ'=>σ'=σ/\e∈ends
mutual
def sfv:AVal->Bool
 | .sc _=>true
 | .ptr _ _ _=>false
 | .iptr cs=>sfvs cs
 | .slice _ _ _=>false
 | .view _ _ _=>false
 | .data _ _ els=>sfvs els
 | .map _=>false
 | .yld _=>false
 | .endS _ _=>false
 | .func _ a b=>sfvs a && sfvs b
 | .iface _ v=>sfv v
 | .agg cs=>sfvs cs
 | .tuple cs=>sfvs cs
def sfvs:List AVal->Bool
 | []=>true
 | v::vs=>match sfv v with
  | true=>sfvs vs
  | false=>false
end
mutual
theorem sfv_wf:∀ {v:AVal},sfv v=true->WF 0 v
  | .sc v,_=>.sc v
  | .ptr _ _ _,h=>by simp [sfv] at h
  | .iptr cs,h=>.iptr cs (sfvs_wf (by simpa [sfv] using h))
  | .slice _ _ _,h=>by simp [sfv] at h
  | .view _ _ _,h=>by simp [sfv] at h
  | .data sz t els,h=>.data sz t els (sfvs_wf (by simpa [sfv] using h))
  | .map _,h=>by simp [sfv] at h
  | .yld _,h=>by simp [sfv] at h
  | .endS _ _,h=>by simp [sfv] at h
  | .func fn a b, h => by
      simp only [sfv,Bool.and_eq_true] at h
      exact .func fn a b (sfvs_wf h.1) (sfvs_wf h.2)
  | .iface t v,h=>.iface t v (sfv_wf (by simpa [sfv] using h))
  | .agg cs,h=>.agg cs (sfvs_wf (by simpa [sfv] using h))
  | .tuple cs,h=>.tuple cs (sfvs_wf (by simpa [sfv] using h))
theorem sfvs_wf:∀ {vs:List AVal},sfvs vs=true->WFs 0 vs
  | [],_=>.nil
  | v :: vs, h => by
      unfold sfvs at h
      split at h
      · rename_i hv
        exact .cons v vs (sfv_wf hv) (sfvs_wf h)
      · cases h
end
def eqE:AEnd->AEnd->Bool
 | .ret a,.ret b=>aeq a b
 | .pan a,.pan b=>aeq a b
 | _,_=>false
def dedupE:List AEnd->List AEnd
 | []=>[]
 | e::es=>match es.any (eqE e) with
  | true=>dedupE es
  | false=>e::dedupE es
theorem dedupE_mem:∀ {es:List AEnd} {e:AEnd},e∈es->e∈dedupE es
  | [],_,h=>by simp at h
  | x :: es, e, h => by
      unfold dedupE
      simp at h
      split
      · rename_i ha
        rcases h with rfl|h
        · rw [List.any_eq_true] at ha
          obtain ⟨y,hy,he⟩:=ha
          have:e=y:=by
            cases e<;>cases y<;>simp only [eqE] at he<;>first|cases he; done|rw [aeq_eq he]
          subst this
          exact dedupE_mem hy
        · exact dedupE_mem h
      · rcases h with rfl|h
        · simp
        · simp [dedupE_mem h]
theorem mapO_mem {α β:Type} {f:α->Option β}:∀ {l:List α} {r:List β},mapO f l=some r->∀ x∈l,∃ y,f x=some y/\y∈r
  | [],r,h,x,hx=>by simp at hx
  | a :: l, r, h, x, hx => by
      obtain ⟨y,ys,h1,h2,rfl⟩:=mapO_cons h
      simp at hx
      rcases hx with rfl|hx
      · exact ⟨y,h1,by simp⟩
      · obtain ⟨z,h3,h4⟩:=mapO_mem h2 x hx
        exact ⟨z,h3,by simp [h4]⟩
def xEnds (r:Option (List OutE)):Option (List AEnd):=
 match r with
 | none=>none
 | some os=>match mapO (fun o=>frzE o.2 100 o.1) os with
  | none=>none
  | some es=>some (dedupE es)
theorem xEnds_sound {E:Env} (hG:∀ g,WF 0 (E.G g)) {f:FuncId} {args:List AVal} (ha:sfvs args=true) {os:List OutE} {es:List AEnd} (he:xEnds (some os)=some es)
  (h:ACalls E f args empty fun e σ'=>(e,σ')∈os) (σ:AStore):ACalls E f args σ fun e σ'=>σ'=σ/\e∈es:=by
 simp only [xEnds] at he
 split at he
 ·cases he
 ·rename_i es' hm
  cases he
  refine (ACalls.pure hG (sfvs_wf ha) h (N:=100) (fun e σ0 hmem=>?_) σ).mono ?_
  ·obtain ⟨y,h1,_⟩:=mapO_mem hm (e,σ0) hmem
   exact ⟨y,h1⟩
  ·rintro e σ' ⟨h1,e0,σ0,h2,h3⟩
   obtain ⟨y,h4,h5⟩:=mapO_mem hm (e0,σ0) h2
   rw [h3] at h4
   cases h4
   exact ⟨h1,dedupE_mem h5⟩
def xEndsO (r:Option (List OutE)):Option (List AEnd):=
 match r with
 | none=>none
 | some os=>match mapO (fun o:OutE=>match ownE o.2 100 o.1 with|true=>frzE o.2 100 o.1|false=>none) os with
  | none=>none
  | some es=>some (dedupE es)
theorem xEndsO_sound {E:Env} (hG:∀ g,WF 0 (E.G g)) {f:FuncId} {args:List AVal} {os:List OutE} {es:List AEnd} (he:xEndsO (some os)=some es)
  (h:ACalls E f args empty fun e σ'=>(e,σ')∈os) (σ:AStore) {M:Nat} {bs:List Nat} {args1:List AVal} (hz:mapO (frz (σ.only bs) M) args1=some args):ACalls E f args1 σ fun e σ'=>σ'=σ/\e∈es:=by
 simp only [xEndsO] at he
 split at he
 ·cases he
 ·rename_i es' hm
  cases he
  refine (ACalls.pureT hG h (N:=100) (fun e σ0 hmem=>?_) σ hz).mono ?_
  ·obtain ⟨y,h1,_⟩:=mapO_mem hm (e,σ0) hmem
   simp only [] at h1
   split at h1
   ·rename_i ho; exact ⟨y,h1,ho⟩
   ·cases h1
  ·rintro e σ' ⟨h1,e0,σ0,h2,h3⟩
   obtain ⟨y,h4,h5⟩:=mapO_mem hm (e0,σ0) h2
   simp only [] at h4
   split at h4
   ·rw [h3] at h4
    cases h4
    exact ⟨h1,dedupE_mem h5⟩
   ·cases h4
def lend (σ:AStore) (args:List AVal):Option (List AVal):=
 match blks σ 2000 args [] with
 | bs=>mapO (frz (σ.only bs) 100) args
abbrev XFCall:=FuncId->List AVal->AStore->Option (List OutE)
abbrev OutM:=AEnd×Option AVal×AStore
abbrev XDCall:=FuncId->List AVal->Option AVal->AStore->Option (List OutM)
def xLeave (E:Env) (dcall:XDCall) (fn:Func) (a:AAct):List ADef->Option AVal->AStore->Option (List OutE)
 | [],none,σ=>
  match aResult E fn.results.toList a σ with
  | some v=>some [(.ret v,σ)]
  | none=>none
 | [],some v,σ=>some [(.pan v,σ)]
 | d::ds,m,σ=>
  match d.fn with
  | .func g=>
   match E.fns g with
   | false=>none
   | true=>
    match dcall g (d.args++d.cap) m σ with
    | none=>none
    | some outs=>bindO outs fun r=>
     match r.1 with
     | .ret _=>xLeave E dcall fn a ds r.2.1 r.2.2
     | .pan v=>match m with
      | none=>xLeave E dcall fn a ds (some v) r.2.2
      | some _=>none
  | .yield b=>
   match σ.get b with
   | some .dfd=>xLeave E dcall fn a ds m (σ.del b)
   | _=>none
  | _=>none
def xFinD (E:Env) (fn:Func) (o:Out):Option (List OutE):=
 match o.2.1.defers with
 | []=>
  match o.1 with
  | .normal|.ret=>match aResult E fn.results.toList o.2.1 o.2.2 with
   | some v=>some [(.ret v,o.2.2)]
   | none=>none
  | .pan v=>some [(.pan v,o.2.2)]
  | _=>none
 | _=>none
def xFinM (E:Env) (fn:Func) (md:Md) (o:Out):Option (List OutM):=
 match o.2.1.defers with
 | []=>
  match o.1 with
  | .normal|.ret=>match aResult E fn.results.toList o.2.1 o.2.2 with
   | some v=>some [(.ret v,md.after,o.2.2)]
   | none=>none
  | .pan v=>match md with
   | .norm=>some [(.pan v,none,o.2.2)]
   | _=>none
  | _=>none
 | _=>none
def hasRecov:List Oper->Bool
 | []=>false
 | o::os=>match o.op with
  | .call {callee:=.builtin .recover,..}=>true
  | _=>hasRecov os
def recCode:Code->Option (Array Oper×Code)
 | .seq (.region _ ops false) rest=>match hasRecov ops.toList with
  | true=>some (ops,rest)
  | false=>none
 | _=>none
theorem recCode_some {c:Code} {ops:Array Oper} {rest:Code} (h:recCode c=some (ops,rest)):∃ id,c=.seq (.region id ops false) rest:=by
 unfold recCode at h
 split at h
 ·rename_i id ops' rest'
  split at h
  ·cases h; exact ⟨id,rfl⟩
  ·cases h
 ·cases h
def xOpsM (E:Env) (ops:Array Oper):List Nat->Md->AAct->AStore->Option (Md×AAct×AStore)
 | [],md,a,σ=>some (md,a,σ)
 | i::rest,md,a,σ=>
  match ops[i]? with
  | none=>none
  | some o=>
   match o.guard with
   | some _=>none
   | none=>
    match a.fits o.dst with
    | false=>none
    | true=>
     match aOp E false o.op (a.ev E.G) σ with
     | .recov=>
      match md with
      | .pan v=>xOpsM E ops rest .cau (a.put o.dst (some v)) σ
      | .norm=>xOpsM E ops rest .norm (a.put o.dst (some (.sc .nilIface))) σ
      | .cau=>xOpsM E ops rest .cau (a.put o.dst (some (.sc .nilIface))) σ
     | .val v σ'=>xOpsM E ops rest md (a.put o.dst (some v)) σ'
     | .skip σ'=>xOpsM E ops rest md (a.put o.dst (some undefA)) σ'
     | _=>none
theorem xOpsM_sound {E:Env} {ops:Array Oper} {K:Md->AAct->AStore->Prop}:∀ (l:List Nat) (md:Md) (a:AAct) (σ:AStore) {r:Md×AAct×AStore},xOpsM E ops l md a σ=some r->K r.1 r.2.1 r.2.2->aOpsM E ops K l md a σ
  | [],md,a,σ,r,h,hk=>by cases h; exact hk
  | i :: l, md, a, σ, r, h, hk => by
      unfold xOpsM at h
      unfold aOpsM
      split at h
      · cases h
      · rename_i o ho
        rw [ho]
        simp only []
        split at h
        · cases h
        · rename_i hg
          split at h
          · cases h
          · rename_i hf
            refine ⟨hg,hf,?_⟩
            split at h
            · rename_i hop
              rw [hop]
              simp only []
              cases md with
              | pan v=>exact xOpsM_sound l _ _ _ h hk
              | norm=>exact xOpsM_sound l _ _ _ h hk
              | cau=>exact xOpsM_sound l _ _ _ h hk
            · rename_i v σ' hop
              rw [hop]
              exact xOpsM_sound l _ _ _ h hk
            · rename_i σ' hop
              rw [hop]
              exact xOpsM_sound l _ _ _ h hk
            · cases h
def xFin (E:Env) (dcall:XDCall) (fn:Func) (o:Out):Option (List OutE):=
 match o.1 with
 | .normal|.ret=>xLeave E dcall fn o.2.1 o.2.1.defers none o.2.2
 | .pan v=>xLeave E dcall fn o.2.1 o.2.1.defers (some v) o.2.2
 | _=>none
def thenO (r:Option (List Out)) (k:Out->Option (List Out)):Option (List Out):=
 match r with
 | none=>none
 | some outs=>bindO outs k
def thenE (r:Option (List Out)) (k:Out->Option (List OutE)):Option (List OutE):=
 match r with
 | none=>none
 | some outs=>bindO outs k
def xPrune (n0:Nat) (r:Option (List Out)):Option (List Out):=
 match r with
 | none=>none
 | some os=>some (Fr.prune n0 os)
theorem xPrune_some {n0:Nat} {r:Option (List Out)} {outs:List Out} (h:xPrune n0 r=some outs):∃ os,r=some os/\outs=Fr.prune n0 os:=by
 cases r with
 | none=>cases h
 | some os=>cases h; exact ⟨os,rfl,rfl⟩
def Env.at (E:Env) (r:Option Nat):Env:={E with rd:=r}
def xTgt (F:FTab) (call:XFCall) (rnd:Nat->List AVal->AStore->Option (List OutE)):XCall
 | .fn f=>fun args σ=>match F.fz f with
  | false=>match F.tz f && !(sfvs args) with
   | false=>call f args σ
   | true=>match lend σ args with
    | none=>none
    | some args'=>match F.ctrT f args' with
     | some es=>some (es.map fun e=>(e,σ))
     | none=>match xEndsO (call f args' empty) with
      | none=>none
      | some es=>some (es.map fun e=>(e,σ))
  | true=>match fzArgs σ args with
   | none=>none
   | some (args',σ')=>call f args' σ'
 | .yld b=>rnd b
def thenR (r:Option (List OutE)) (k:OutE->Option (List Out)):Option (List Out):=
 match r with
 | none=>none
 | some outs=>bindO outs k
theorem thenR_some {r:Option (List OutE)} {k:OutE->Option (List Out)} {outs:List Out} (h:thenR r k=some outs):∃ os,r=some os/\∀ o∈os,∃ ys,k o=some ys/\∀ y∈ys,y∈outs:=by
 unfold thenR at h
 split at h
 ·cases h
 ·rename_i os; exact ⟨os,rfl,bindO_some h⟩
def xRangeEnd (a:AAct) (l:Nat) (o:OutE):Option (List Out):=
 match o.1 with
 | .pan v=>some [(.pan v,a,o.2)]
 | .ret _=>
  match o.2.get l with
  | some (.loop st pend ps as bd tm nt d)=>
   match st with
   | .busy=>none
   | _=>
    match pend with
    | none=>some [(.normal,a,o.2.set l (.loop .exhausted pend ps as bd tm nt d))]
    | some .ret=>some [(.ret,a,o.2.set l (.loop .exhausted pend ps as bd tm nt d))]
    | some (.exit id)=>some [(.exit id,a,o.2.set l (.loop .exhausted pend ps as bd tm nt d))]
    | some (.goto t)=>some [(.goto t,a,o.2.set l (.loop .exhausted pend ps as bd tm nt d))]
    | _=>none
  | _=>none
theorem xRangeEnd_sound {Q:APred} {a:AAct} {l:Nat} {o:OutE} {ys outs:List Out} (h:xRangeEnd a l o=some ys) (hs:∀ y∈ys,y∈outs) (hQ:∀ o∈outs,Q o.1 o.2.1 o.2.2):aRangePost Q a l o.1 o.2:=by
 obtain ⟨e,σ⟩:=o
 cases e with
 | pan v=>cases h; exact hQ _ (hs _ (List.mem_singleton.2 rfl))
 | ret v=>
  simp only [xRangeEnd] at h
  split at h
  ·rename_i st pend ps as bd tm nt d hg
   split at h
   ·cases h
   ·rename_i hst
    refine ⟨st,pend,ps,as,bd,tm,nt,d,hg,by cases st<;>simp_all,?_⟩
    split at h
    ·cases h; exact hQ _ (hs _ (List.mem_singleton.2 rfl))
    ·cases h; exact hQ _ (hs _ (List.mem_singleton.2 rfl))
    ·cases h; exact hQ _ (hs _ (List.mem_singleton.2 rfl))
    ·cases h; exact hQ _ (hs _ (List.mem_singleton.2 rfl))
    ·cases h
  ·cases h
def xMid (b:Nat) (k:AAct->AStore->Option (List Out)) (o:Out):Option (List Out):=
 match o.1 with
 | .normal=>
  match o.2.2.get b with
  | some (.loop .ready pend ps as bd tm nt d)=>k o.2.1 (o.2.2.set b (.loop .busy pend ps as bd tm nt d))
  | _=>none
 | _=>none
def xRoundEnd (b:Nat) (o:Out):Option (List OutE):=
 match o.2.2.get b with
 | some (.loop _ _ ps as bd tm nt d)=>
  match o.1 with
  | .normal=>some [(.ret (.sc (.bool true)),o.2.2.set b (.loop .ready none ps as bd tm nt d))]
  | .ret=>some [(.ret (.sc (.bool false)),o.2.2.set b (.loop .done (some .ret) ps as bd tm nt d))]
  | .exit id=>some [(.ret (.sc (.bool false)),o.2.2.set b (.loop .done (some (.exit id)) ps as bd tm nt d))]
  | .goto l=>some [(.ret (.sc (.bool false)),o.2.2.set b (.loop .done (some (.goto l)) ps as bd tm nt d))]
  | .pan _=>none
 | _=>none
theorem xRoundEnd_sound {R:AEnd->AStore->Prop} {b:Nat} {o:Out} {ys outs:List OutE} (h:xRoundEnd b o=some ys) (hs:∀ y∈ys,y∈outs) (hR:∀ o∈outs,R o.1 o.2):aRoundPost b R o.1 o.2.1 o.2.2:=by
 obtain ⟨e,a,σ⟩:=o
 simp only [xRoundEnd] at h
 split at h
 ·rename_i st pend ps as bd tm nt d hg
  refine ⟨st,pend,ps,as,bd,tm,nt,d,hg,?_⟩
  cases e with
  | pan v=>cases h
  | _=>cases h; exact hR _ (hs _ (List.mem_singleton.2 rfl))
 ·cases h
mutual
def xCode (E:Env) (F:FTab):Nat->Option Nat->Code->AAct->AStore->Option (List Out)
  | 0,_,_,_,_=>none
  | n+1,r,c,a,σ=>
    match c with
    | .skip=>some [(.normal,a,σ)]
    | .label _=>some [(.normal,a,σ)]
    | .region _ ops draw=>
      match draw with
      | false=>xOpsF (E.at r) (xTgt F (xCall E F n) (xRound E F n)) ops ops.toList a σ
      | true=>
        match E.P.follows .mixedOrders && fitsAll ops.toList a with
        | true=>match drawOk (E.at r) ops (canonOf (E.at r) ops) with
          | true=>xDr (E.at r) (xTgt F (xCall E F n) (xRound E F n)) ops (ancs ops (canonOf (E.at r) ops) []) (clearAll ops.toList a) (canonOf (E.at r) ops) [] a σ
          | false=>match Fr.drawOkF ops (canonOf (E.at r) ops) with
            | true=>xPrune σ.next (Fr.xDrs (E.at r) (xTgt F (xCall E F n) (xRound E F n)) ops (ancs ops (canonOf (E.at r) ops) []) (clearAll ops.toList a) ops.size (canonOf (E.at r) ops) [] a σ)
            | false=>none
        | false=>none
    | .seq x y => thenO (xCode E F n r x a σ) fun o =>
        match o.1 with
        | .normal=>xCode E F n r y o.2.1 o.2.2
        | _=>some [o]
    | .cond c x y=>
      match a.ev E.G c with
      | some (.sc (.bool b))=>match b with
        | true=>xCode E F n r x a σ
        | false=>xCode E F n r y a σ
      | _=>none
    | .block id c => thenO (xCode E F n r c a σ) fun o =>
        match o.1 with
        | .exit id'=>match Nat.beq id' id with
          | true=>some [(.normal,o.2)]
          | false=>some [o]
        | _=>some [o]
    | .loop c=>xLoop E F n r c a σ
    | .exit id=>some [(.exit id,a,σ)]
    | .goto l=>some [(.goto l,a,σ)]
    | .ret=>some [(.ret,a,σ)]
    | .scope c=>xScope E F n r c c a σ
    | .rangeFunc g ps as bd=>
      match a.ev E.G g with
      | some (.func (.func f) first cap)=>match E.fns f with
        | true=>match r with
          | none => thenR (xCall E F n f (first ++ [.yld (σ.next + 1)] ++ cap) ((σ.alloc .dfd).alloc (.loop .ready none ps as bd a.tmps a.n σ.next)))
              (xRangeEnd {a with defers:=⟨.yield σ.next,[],[]⟩::a.defers} (σ.next+1))
          | some l0=>match σ.get l0 with
            | some (.loop _ _ _ _ _ _ _ d)=>thenR (xCall E F n f (first++[.yld σ.next]++cap) (σ.alloc (.loop .ready none ps as bd a.tmps a.n d))) (xRangeEnd a σ.next)
            | _=>none
        | false=>none
      | _=>none
    | _=>none
def xLoop (E:Env) (F:FTab):Nat->Option Nat->Code->AAct->AStore->Option (List Out)
  | 0,_,_,_,_=>none
  | n + 1, r, c, a, σ => thenO (xCode E F n r c a σ) fun o =>
      match o.1 with
      | .normal=>xLoop E F n r c o.2.1 o.2.2
      | _=>some [o]
def xScope (E:Env) (F:FTab):Nat->Option Nat->Code->Code->AAct->AStore->Option (List Out)
  | 0,_,_,_,_,_=>none
  | n + 1, r, body, cur, a, σ => thenO (xCode E F n r cur a σ) fun o =>
      match o.1 with
      | .goto l=>match findLabel body l with
        | some rest=>xScope E F n r body rest o.2.1 o.2.2
        | none=>some [o]
      | _=>some [o]
def xCall (E:Env) (F:FTab):Nat->FuncId->List AVal->AStore->Option (List OutE)
  | 0,_,_,_=>none
  | n+1,f,args,σ=>
    match F.ctr f args with
    | some ends=>some (ends.map fun e=>(e,σ))
    | none=>
      match F.fn f with
      | none=>none
      | some fn=>
        match fn.body with
        | none=>none
        | some c=>
          match Nat.ble args.length fn.ntmps && Nat.blt args.length 1000 with
          | false=>none
          | true=>
            match F.pure f && sfvs args with
            | true=>
              match xEnds (thenE (xCode E F n none c (aInit args fn.ntmps) empty) (xFin E (xDCall E F n) fn)) with
              | none=>none
              | some es=>some (es.map fun e=>(e,σ))
            | false=>thenE (xCode E F n none c (aInit args fn.ntmps) σ) (xFin E (xDCall E F n) fn)
def xDCall (E:Env) (F:FTab):Nat->FuncId->List AVal->Option AVal->AStore->Option (List OutM)
  | 0,_,_,_,_=>none
  | n+1,f,args,m,σ=>
    match F.fn f with
    | none=>none
    | some fn=>
      match fn.body with
      | none=>none
      | some c=>
        match Nat.ble args.length fn.ntmps && Nat.blt args.length 1000 with
        | false=>none
        | true=>
          match recCode c with
          | some (ops,rest)=>
            match xOpsM E ops (List.range ops.size) (Md.start m) (aInit args fn.ntmps) σ with
            | none=>none
            | some (md,a,σ1)=>
              match xCode E F n none rest a σ1 with
              | none=>none
              | some outs=>bindO outs (xFinM E fn md)
          | none=>
            match xCode E F n none c (aInit args fn.ntmps) σ with
            | none=>none
            | some outs=>(bindO outs (xFinD E fn)).map (List.map fun o=>(o.1,m,o.2))
def xRound (E:Env) (F:FTab):Nat->Nat->List AVal->AStore->Option (List OutE)
  | 0,_,_,_=>none
  | n+1,b,args,σ=>
    match σ.get b with
    | some (.loop _ _ ps as bd tm nt _)=>thenE (thenO (xCode E F n (some b) as ⟨roundTmps tm ps.toList args,nt,[]⟩ σ) (xMid b (xCode E F n (some b) bd))) (xRoundEnd b)
    | _=>none
end
def DCallOk (E:Env) (call:XDCall):Prop:=∀ f args m σ outs,call f args m σ=some outs->ACallsM E f args m σ fun e m' σ'=>(e,m',σ')∈outs
section
variable {E:Env}
theorem xLeave_sound {dcall : XDCall} (hd : DCallOk E dcall) {fn : Func} {a : AAct} {R : AEnd → AStore → Prop} : ∀ (ds : List ADef) (m : Option AVal) (σ : AStore) (outs : List OutE), xLeave E dcall fn a ds m σ = some outs →
    (∀ o∈outs,R o.1 o.2)->ALeaves E fn a R ds m σ
  | [], none, σ, outs, h, hR => by
      simp only [xLeave] at h
      split at h
      · rename_i v hv; cases h; exact ⟨v,hv,hR (_,_) (List.mem_singleton.2 rfl)⟩
      · cases h
  | [],some v,σ,outs,h,hR=>by cases h; exact hR (_,_) (List.mem_singleton.2 rfl)
  | d :: ds, m, σ, outs, h, hR => by
      unfold xLeave at h
      unfold ALeaves
      split at h
      · rename_i g hg
        rw [hg]
        split at h
        · cases h
        · rename_i hfn
          split at h
          · cases h
          · rename_i os hos
            refine ⟨hfn,(hd g _ m σ os hos).mono ?_⟩
            intro e m' σ' hmem
            obtain ⟨ys,h1,h2⟩:=bindO_some h (e,m',σ') hmem
            cases e with
            | ret v=>exact xLeave_sound hd ds m' σ' ys h1 (fun o ho=>hR o (h2 o ho))
            | pan v=>
              simp only [] at h1
              split at h1
              · exact xLeave_sound hd ds (some v) σ' ys h1 (fun o ho=>hR o (h2 o ho))
              · cases h1
      · rename_i b hb
        rw [hb]
        split at h
        · rename_i hg
          exact ⟨hg,xLeave_sound hd ds m (σ.del b) outs h hR⟩
        · cases h
      · cases h
theorem thenO_some {r:Option (List Out)} {k:Out->Option (List Out)} {outs:List Out} (h:thenO r k=some outs):∃ os,r=some os/\∀ o∈os,∃ ys,k o=some ys/\∀ y∈ys,y∈outs:=by
 unfold thenO at h
 split at h
 ·cases h
 ·rename_i os; exact ⟨os,rfl,bindO_some h⟩
def XCallOk (E:Env) (call:XFCall):Prop:=∀ f args σ outs,call f args σ=some outs->ACalls E f args σ fun e σ'=>(e,σ')∈outs
def XRoundOk (E:Env) (rnd:Nat->List AVal->AStore->Option (List OutE)):Prop:=∀ b args σ outs,rnd b args σ=some outs->ARound E b args σ fun e σ'=>(e,σ')∈outs
theorem ACalls.at {f:FuncId} {args:List AVal} {σ:AStore} {R:AEnd->AStore->Prop} (h:ACalls E f args σ R) (r:Option Nat):ACalls (E.at r) f args σ R:=by
 intro ι H w args' hR ha
 refine (h ι H w args' hR.unrd ha).mono ?_
 rintro e w' ⟨ι',H',σ',ae,h1,h2,h3,h4⟩
 exact ⟨ι',H',σ',ae,h1,h2,h3.rd r,h4⟩
theorem xTgt_ok {call:XFCall} {rnd:Nat->List AVal->AStore->Option (List OutE)} (hc:XCallOk E call) (hr:XRoundOk E rnd) (r:Option Nat) {F:FTab} (hF:FOk E F):CallOk (E.at r) (xTgt F call rnd):=by
 intro t args σ outs h
 cases t with
 | fn f=>
  simp only [xTgt] at h
  split at h
  ·split at h
   ·exact (hc f args σ outs h).at r
   ·split at h
    ·cases h
    ·rename_i args' hl
     have hl:mapO (frz (σ.only (blks σ 2000 args [])) 100) args=some args':=hl
     split at h
     ·rename_i es hes
      cases h
      refine (ACalls.mono (hF.ctrT f args' es hes σ _ _ args hl) ?_).at r
      rintro e σ' ⟨rfl,hm⟩
      exact List.mem_map.2 ⟨e,hm,rfl⟩
     ·split at h
      ·cases h
      ·rename_i es hes
       cases h
       cases hr:call f args' empty with
       | none=>rw [hr] at hes; cases hes
       | some os=>
        rw [hr] at hes
        refine (ACalls.mono (xEndsO_sound hF.glob hes (hc f args' empty os hr) σ hl) ?_).at r
        rintro e σ' ⟨rfl,hm⟩
        exact List.mem_map.2 ⟨e,hm,rfl⟩
  ·split at h
   ·cases h
   ·rename_i args' σ' hz
    exact (ACalls.fz hz (hc f args' σ' outs h)).at r
 | yld b=>exact hr b args σ outs h
theorem x_sound {F : FTab} (hrd : E.rd = none) (hF : FOk E F) : ∀ n : Nat,
    (∀ (r:Option Nat) (c:Code) (a:AAct) (σ:AStore) (outs:List Out) (Q:APred),xCode E F n r c a σ=some outs->(∀ o∈outs,Q o.1 o.2.1 o.2.2)->AWp (E.at r) c Q a σ)/\
    (∀ (r:Option Nat) (c:Code) (a:AAct) (σ:AStore) (outs:List Out) (Q:APred),xLoop E F n r c a σ=some outs->(∀ o∈outs,Q o.1 o.2.1 o.2.2)->AWpN (E.at r) c Q n a σ)/\
    (∀ (r:Option Nat) (b c:Code) (a:AAct) (σ:AStore) (outs:List Out) (Q:APred),xScope E F n r b c a σ=some outs->(∀ o∈outs,Q o.1 o.2.1 o.2.2)->AScN (E.at r) b Q n c a σ)/\
    XCallOk E (xCall E F n)/\DCallOk E (xDCall E F n)/\XRoundOk E (xRound E F n):=by
  have hat:E.at none=E:=by cases E; cases hrd; rfl
  intro n
  induction n with
  | zero=>
    refine ⟨?_,?_,?_,?_,?_,?_⟩
    · intro r c a σ outs Q h; simp [xCode] at h
    · intro r c a σ outs Q h; simp [xLoop] at h
    · intro r b c a σ outs Q h; simp [xScope] at h
    · intro f args σ outs h; simp [xCall] at h
    · intro f args m σ outs h; simp [xDCall] at h
    · intro f args σ outs h; simp [xRound] at h
  | succ n ih=>
    obtain ⟨ih1,ih2,ih3,ih4',ih5,ih6⟩:=ih
    have ih1n:∀ (c:Code) (a:AAct) (σ:AStore) (outs:List Out) (Q:APred),xCode E F n none c a σ=some outs->(∀ o∈outs,Q o.1 o.2.1 o.2.2)->AWp E c Q a σ:=by
      intro c a σ outs Q h hQ
      have:=ih1 none c a σ outs Q h hQ
      rwa [hat] at this
    refine ⟨?_,?_,?_,?_,?_,?_⟩
    · intro r c a σ outs Q h hQ
      have ih4:=xTgt_ok ih4' ih6 r hF
      cases c with
      | skip=>simp only [xCode,Option.some.injEq] at h; subst h; exact AWp.skip (hQ (_,_,_) (List.mem_singleton.2 rfl))
      | label l=>simp only [xCode,Option.some.injEq] at h; subst h; exact AWp.label (hQ (_,_,_) (List.mem_singleton.2 rfl))
      | region id ops draw=>
        simp only [xCode] at h
        cases draw with
        | false=>
          simp only [xOpsF_eq] at h
          refine AWp.region (xOps_sound ih4 _ ops.toList a σ outs ?_ h hQ)
          apply List.ext_getElem?
          intro i
          simp only [List.getElem?_map]
          by_cases hi:i < ops.size
          · simp [hi]
          · rw [List.getElem?_eq_none (by simp; omega),List.getElem?_eq_none (by simp; omega)]; rfl
        | true=>
          simp only [] at h
          split at h
          · rename_i hok
            simp only [Bool.and_eq_true] at hok
            split at h
            · rename_i hd
              exact AWp.region_draw (E:=E.at r) hok.1 ⟨hd,hok.2,xDr_sound ih4 _ _ _ _ _ h hQ⟩
            · split at h
              · rename_i hd
                obtain ⟨os,h1,rfl⟩:=xPrune_some h
                exact Fr.AWp.prune (E:=E.at r) hF.glob (Fr.region_drawF (E:=E.at r) hok.1 hd hok.2 (Fr.xDrs_sound ih4 _ _ _ _ _ _ h1 (fun o ho=>ho))) hQ
              · cases h
          · cases h
      | seq x y=>
        simp only [xCode] at h
        obtain ⟨os,h1,h2⟩:=thenO_some h
        refine AWp.seq (ih1 r x a σ os _ h1 ?_)
        intro o ho
        obtain ⟨ys,h3,h4⟩:=h2 o ho
        obtain ⟨e,a1,σ1⟩:=o
        cases e with
        | normal=>exact ih1 r y a1 σ1 ys Q h3 (fun o ho=>hQ o (h4 o ho))
        | _=>cases h3; exact hQ (_,_,_) (h4 _ (List.mem_singleton.2 rfl))
      | cond c x y=>
        simp only [xCode] at h
        split at h
        · rename_i b hb
          refine AWp.cond (E:=E.at r) hb (fun e=>?_) (fun e=>?_)<;>(subst e; simp only [] at h; exact ih1 r _ a σ outs Q h hQ)
        · cases h
      | block id c=>
        simp only [xCode] at h
        obtain ⟨os,h1,h2⟩:=thenO_some h
        refine AWp.block (ih1 r c a σ os _ h1 ?_)
        intro o ho
        obtain ⟨ys,h3,h4⟩:=h2 o ho
        obtain ⟨e,a1,σ1⟩:=o
        cases e with
        | exit id'=>
          simp only [] at h3
          simp only [AExit.inBlock]
          split at h3
          · rename_i hb
            rw [if_pos (Nat.eq_of_beq_eq_true hb)]
            cases h3; exact hQ (_,_,_) (h4 _ (List.mem_singleton.2 rfl))
          · rename_i hb
            rw [if_neg (fun hh=>by subst hh; rw [Nat.beq_refl] at hb; cases hb)]
            cases h3; exact hQ (_,_,_) (h4 _ (List.mem_singleton.2 rfl))
        | _=>cases h3; exact hQ (_,_,_) (h4 _ (List.mem_singleton.2 rfl))
      | loop c=>
        simp only [xCode] at h
        exact AWp.loopN n (ih2 r c a σ outs Q h hQ)
      | exit id=>simp only [xCode,Option.some.injEq] at h; subst h; exact AWp.exit (hQ (_,_,_) (List.mem_singleton.2 rfl))
      | goto id=>simp only [xCode,Option.some.injEq] at h; subst h; exact AWp.goto (hQ (_,_,_) (List.mem_singleton.2 rfl))
      | ret=>simp only [xCode,Option.some.injEq] at h; subst h; exact AWp.ret (hQ (_,_,_) (List.mem_singleton.2 rfl))
      | scope c=>
        simp only [xCode] at h
        exact AWp.scopeN n (ih3 r c c a σ outs Q h hQ)
      | rangeFunc g ps as bd=>
        simp only [xCode] at h
        split at h
        · rename_i f first cap hg
          split at h
          · rename_i hfn
            refine AWp.rangeFunc (E:=E.at r) hg hfn ?_
            unfold aRangeF
            split at h
            · obtain ⟨os,h1,h2⟩:=thenR_some h
              refine ((ih4' f _ _ os h1).at none).mono ?_
              intro e σ' hm
              obtain ⟨ys,h3,h4⟩:=h2 _ hm
              exact xRangeEnd_sound h3 h4 hQ
            · rename_i l0
              split at h
              · rename_i hl0
                obtain ⟨os,h1,h2⟩:=thenR_some h
                refine ⟨_,_,_,_,_,_,_,_,hl0,((ih4' f _ _ os h1).at (some l0)).mono ?_⟩
                intro e σ' hm
                obtain ⟨ys,h3,h4⟩:=h2 _ hm
                exact xRangeEnd_sound h3 h4 hQ
              · cases h
          · cases h
        · cases h
      | refuse w=>simp [xCode] at h
    · intro r c a σ outs Q h hQ
      simp only [xLoop] at h
      obtain ⟨os,h1,h2⟩:=thenO_some h
      unfold AWpN
      refine ih1 r c a σ os _ h1 ?_
      intro o ho
      obtain ⟨ys,h3,h4⟩:=h2 o ho
      obtain ⟨e,a1,σ1⟩:=o
      cases e with
      | normal=>exact ih2 r c a1 σ1 ys Q h3 (fun o ho=>hQ o (h4 o ho))
      | _=>cases h3; exact hQ (_,_,_) (h4 _ (List.mem_singleton.2 rfl))
    · intro r b c a σ outs Q h hQ
      simp only [xScope] at h
      obtain ⟨os,h1,h2⟩:=thenO_some h
      unfold AScN
      refine ih1 r c a σ os _ h1 ?_
      intro o ho
      obtain ⟨ys,h3,h4⟩:=h2 o ho
      obtain ⟨e,a1,σ1⟩:=o
      cases e with
      | goto l=>
        simp only [] at h3 ⊢
        cases hf:findLabel b l with
        | some rest=>rw [hf] at h3; exact ih3 r b rest a1 σ1 ys Q h3 (fun o ho=>hQ o (h4 o ho))
        | none=>rw [hf] at h3; cases h3; exact hQ (_,_,_) (h4 _ (List.mem_singleton.2 rfl))
      | _=>cases h3; exact hQ (_,_,_) (h4 _ (List.mem_singleton.2 rfl))
    · intro f args σ outs h
      simp only [xCall] at h
      split at h
      · rename_i ends hends
        cases h
        refine (hF.ctr f args ends hends σ).mono ?_
        rintro e σ' ⟨rfl,h2⟩
        exact List.mem_map.2 ⟨e,h2,rfl⟩
      split at h
      · cases h
      · rename_i fn hf
        split at h
        · cases h
        · rename_i c hb
          split at h
          · cases h
          · rename_i hlen
            simp only [Bool.and_eq_true,Nat.ble_eq,Nat.blt_eq] at hlen
            have direct:∀ (σ:AStore) (outs:List OutE),thenE (xCode E F n none c (aInit args fn.ntmps) σ) (xFin E (xDCall E F n) fn)=some outs->ACalls E f args σ fun e σ'=>(e,σ')∈outs:=by
              intro σ outs h
              unfold thenE at h
              split at h
              · cases h
              · rename_i os hos
                refine ACalls.of_wpD hrd (hF.fn f fn hf) hb hlen.1 hlen.2 (ih1n c _ σ os _ hos ?_)
                intro o ho
                obtain ⟨ys,h3,h4⟩:=bindO_some h o ho
                obtain ⟨e,a1,σ1⟩:=o
                cases e with
                | normal=>exact xLeave_sound ih5 _ _ _ ys h3 (fun o ho=>h4 o ho)
                | ret=>exact xLeave_sound ih5 _ _ _ ys h3 (fun o ho=>h4 o ho)
                | pan v=>exact xLeave_sound ih5 _ _ _ ys h3 (fun o ho=>h4 o ho)
                | exit id=>cases h3
                | goto l=>cases h3
            split at h
            · rename_i hp
              simp only [Bool.and_eq_true] at hp
              split at h
              · cases h
              · rename_i es hes
                cases h
                cases hr:thenE (xCode E F n none c (aInit args fn.ntmps) empty) (xFin E (xDCall E F n) fn) with
                | none=>rw [hr] at hes; cases hes
                | some os=>
                  rw [hr] at hes
                  refine (xEnds_sound hF.glob hp.2 hes (direct empty os hr) σ).mono ?_
                  rintro e σ' ⟨rfl,h2⟩
                  exact List.mem_map.2 ⟨e,h2,rfl⟩
            · exact direct σ outs h
    · intro f args m σ outs h
      simp only [xDCall] at h
      split at h
      · cases h
      · rename_i fn hf
        split at h
        · cases h
        · rename_i c hb
          split at h
          · cases h
          · rename_i hlen
            simp only [Bool.and_eq_true,Nat.ble_eq,Nat.blt_eq] at hlen
            split at h
            · rename_i ops rest hrc
              obtain ⟨id,rfl⟩:=recCode_some hrc
              split at h
              · cases h
              · rename_i md a2 σ2 hops
                split at h
                · cases h
                · rename_i os hos
                  refine ACallsM.of_wpR hrd (hF.fn f fn hf) hb hlen.1 hlen.2 (xOpsM_sound (List.range ops.size) _ _ _ hops ?_)
                  refine ih1n rest a2 σ2 os _ hos ?_
                  intro o ho
                  obtain ⟨ys,h3,h4⟩:=bindO_some h o ho
                  obtain ⟨e,a1,σ1⟩:=o
                  have h5:xFinM E fn md (e,a1,σ1)=some ys:=h3
                  unfold xFinM at h5
                  cases hd:a1.defers with
                  | cons d ds=>simp only [hd] at h5; cases h5
                  | nil=>
                    simp only [hd] at h5
                    have res : (match aResult E fn.results.toList a1 σ1 with
                        | some v=>some [((AEnd.ret v,md.after,σ1):OutM)]
                        | none=>none)=some ys->∃ v,aResult E fn.results.toList a1 σ1=some v/\(AEnd.ret v,md.after,σ1)∈outs:=by
                      intro hr
                      split at hr
                      · rename_i v hv; cases hr; exact ⟨v,hv,h4 _ (List.mem_singleton.2 rfl)⟩
                      · cases hr
                    cases e with
                    | normal=>exact ⟨hd,res h5⟩
                    | ret=>exact ⟨hd,res h5⟩
                    | pan v=>
                      cases md with
                      | norm=>cases h5; exact ⟨hd,trivial,h4 _ (List.mem_singleton.2 rfl)⟩
                      | pan _=>cases h5
                      | cau=>cases h5
                    | exit id=>cases h5
                    | goto l=>cases h5
            · split at h
              · cases h
              · rename_i os hos
                cases hb2:bindO os (xFinD E fn) with
                | none=>rw [hb2] at h; cases h
                | some outs2=>
                  rw [hb2] at h
                  cases h
                  refine (ACallsM.of_D (m:=m) (R:=fun e σ'=>(e,σ')∈outs2) ?_).mono (by rintro e m' σ' ⟨rfl,hm⟩; exact List.mem_map.2 ⟨(e,σ'),hm,rfl⟩)
                  refine ACallsD.of_wp hrd (hF.fn f fn hf) hb hlen.1 hlen.2 (ih1n c _ σ os _ hos ?_)
                  intro o ho
                  obtain ⟨ys,h3,h4⟩:=bindO_some hb2 o ho
                  obtain ⟨e,a1,σ1⟩:=o
                  have h5:xFinD E fn (e,a1,σ1)=some ys:=h3
                  unfold xFinD at h5
                  cases hd:a1.defers with
                  | cons d ds=>simp only [hd] at h5; cases h5
                  | nil=>
                    simp only [hd] at h5
                    have res : (match aResult E fn.results.toList a1 σ1 with
                        | some v=>some [((AEnd.ret v,σ1):OutE)]
                        | none=>none)=some ys->∃ v,aResult E fn.results.toList a1 σ1=some v/\(AEnd.ret v,σ1)∈outs2:=by
                      intro hr
                      split at hr
                      · rename_i v hv; cases hr; exact ⟨v,hv,h4 _ (List.mem_singleton.2 rfl)⟩
                      · cases hr
                    cases e with
                    | normal=>exact ⟨hd,res h5⟩
                    | ret=>exact ⟨hd,res h5⟩
                    | pan v=>cases h5; exact ⟨hd,h4 _ (List.mem_singleton.2 rfl)⟩
                    | exit id=>cases h5
                    | goto l=>cases h5
    · intro b args σ outs h
      simp only [xRound] at h
      split at h
      · rename_i st0 pend0 ps as bd tm nt d0 hg
        intro st pend ps' as' bd' tm' nt' d hg'
        rw [hg] at hg'
        cases hg'
        unfold thenE at h
        split at h
        · cases h
        · rename_i os hos
          obtain ⟨os1,h1,h2⟩:=thenO_some hos
          refine ih1 (some b) as _ σ os1 _ h1 ?_
          intro o ho
          obtain ⟨ys,h3,h4⟩:=h2 o ho
          obtain ⟨e,a1,σ1⟩:=o
          simp only [xMid] at h3
          split at h3
          · split at h3
            · rename_i pend1 ps1 as1 bd1 tm1 nt1 d1 hg1
              refine ⟨rfl,pend1,ps1,as1,bd1,tm1,nt1,d1,hg1,ih1 (some b) bd a1 _ ys _ h3 ?_⟩
              intro o2 ho2
              obtain ⟨zs,h5,h6⟩:=bindO_some h o2 (h4 o2 ho2)
              exact xRoundEnd_sound h5 h6 (fun o ho=>ho)
            · cases h3
          · cases h3
      · cases h
end
end Abs
end
