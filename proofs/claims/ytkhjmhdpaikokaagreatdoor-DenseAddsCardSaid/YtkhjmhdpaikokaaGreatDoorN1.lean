/-
  Functions of the program walked: each is shown to compute a plain function (N1).
-/
import Derived.Test.YtkhjmhdpaikokaaGreatDoorT11
import Derived.Test.YtkhjmhdpaikokaaGreatDoorT25
set_option linter.unusedSimpArgs false
set_option linter.unusedVariables false
set_option maxRecDepth 100000
set_option maxHeartbeats 16000000
noncomputable section
namespace Abs
open Go Go.Proofs
structure Cn where
 k:Int
 lo:Bool
 st:Bool
 c:Int
structure Rt where
 k:Int
 to:Int
structure Sg where
 v:Int
 e:Ex
structure Lc where
 kind:Int
 inv:List Cn
 rate:Int
structure Eg where
 fr:Int
 to:Int
 gd:List Cn
 cd:Ex
 ch:Int
 snd:Bool
 ss:List Sg
 rs:List Rt
 cost:Int
 kind:Int
structure Pr where
 ini:Int
 locs:List Lc
 egs:List Eg
structure Vr where
 nm:ByteArray
 lo:Int
 hi:Int
 ini:Int
structure Ch where
 nm:ByteArray
 bc:Bool
 ur:Bool
structure Nt where
 clocks:Int
 vars:List Vr
 chans:List Ch
 funcs:List Fc
 procs:List Pr
def cnA (x:Cn):AVal:=.agg [(.sc (.int .i64 (x.k))),(.sc (.bool (x.lo))),(.sc (.bool (x.st))),(.sc (.int .i64 (x.c)))]
def rtA (x:Rt):AVal:=.agg [(.sc (.int .i64 (x.k))),(.sc (.int .i64 (x.to)))]
def vrA (x:Vr):AVal:=.agg [sA x.nm,(.sc (.int .i64 (x.lo))),(.sc (.int .i64 (x.hi))),(.sc (.int .i64 (x.ini)))]
def chA (x:Ch):AVal:=.agg [sA x.nm,(.sc (.bool (x.bc))),(.sc (.bool (x.ur)))]
def cnOk (x:Cn):Prop:=in64 x.k/\in64 x.c
def rtOk (x:Rt):Prop:=in64 x.k/\in64 x.to
def vrOk (x:Vr):Prop:=x.nm.size<=281474976710656/\in64 x.lo/\in64 x.hi/\in64 x.ini
/-- A list that came in. -/
def IsL {α:Type} (sz:Nat) (R:α->AVal->Prop) (l:List α) (S:AVal):Prop:=∃ els:List AVal,IsD sz S els/\els.length=l.length/\l.length<=281474976710656/\∀ (j:Nat) x,l[j]?=some x->∃ e,els[j]?=some e/\R x e
def IsCns (l:List Cn) (S:AVal):Prop:=IsD 4 S (l.map cnA)/\l.length<=281474976710656/\∀ x∈l,cnOk x
def IsRts (l:List Rt) (S:AVal):Prop:=IsD 2 S (l.map rtA)/\l.length<=281474976710656/\∀ x∈l,rtOk x
def IsSg (x:Sg) (v:AVal):Prop:=∃ a,v=.agg ((.sc (.int .i64 (x.v)))::a)/\IsEx x.e (.agg a)/\in64 x.v
def IsLc (x:Lc) (v:AVal):Prop:=∃ S,v=.agg [(.sc (.int .i64 (x.kind))),S,(.sc (.int .i64 (x.rate)))]/\IsCns x.inv S/\in64 x.kind/\in64 x.rate
def IsEg (x:Eg) (v:AVal):Prop:=∃ G a b c d SS SR,v=.agg [(.sc (.int .i64 (x.fr))),(.sc (.int .i64 (x.to))),G,a,b,c,d,(.sc (.int .i64 (x.ch))),(.sc (.bool (x.snd))),SS,SR,(.sc (.int .i64 (x.cost))),(.sc (.int .i64 (x.kind)))]/\IsCns x.gd G/\IsEx x.cd (.agg [a,b,c,d])/\IsL 5 IsSg x.ss SS/\IsRts x.rs SR/\
 in64 x.fr/\in64 x.to/\in64 x.ch/\in64 x.cost/\in64 x.kind
def IsPr (x:Pr) (v:AVal):Prop:=∃ SL SE,v=.agg [(.sc (.int .i64 (x.ini))),SL,SE]/\IsL 3 IsLc x.locs SL/\IsL 13 IsEg x.egs SE/\in64 x.ini
def IsNt (x:Nt) (v:AVal):Prop:=∃ SV SC SF SP fels,v=.agg [(.sc (.int .i64 (x.clocks))),SV,SC,SF,SP]/\in64 x.clocks/\(IsD 4 SV (x.vars.map vrA)/\x.vars.length<=281474976710656/\∀ y∈x.vars,vrOk y)/\(IsD 3 SC (x.chans.map chA)/\x.chans.length<=281474976710656/\∀ y∈x.chans,y.nm.size<=281474976710656)/\
 IsD 3 SF fels/\IsFcs x.funcs fels/\fels.length<=281474976710656/\IsL 3 IsPr x.procs SP
theorem IsL.wf {α:Type} {sz:Nat} {R:α->AVal->Prop} {l:List α} {S:AVal} (h:IsL sz R l S) (hR:∀ x e,R x e->WF 0 e):WF 0 S:=by
 obtain ⟨els,h1,h2,_,h3⟩:=h
 refine h1.wf (WFs.of fun e he=>?_)
 obtain ⟨j,hj,rfl⟩:=List.mem_iff_getElem.1 he
 obtain ⟨e',he',hr⟩:=h3 j l[j] (List.getElem?_eq_getElem (by omega))
 rw [List.getElem?_eq_getElem hj] at he'
 cases he'
 exact hR _ _ hr
theorem wf_cn (x:Cn):WF 0 (cnA x):=.agg _ (.cons _ _ (.sc _) (.cons _ _ (.sc _) (.cons _ _ (.sc _) (.cons _ _ (.sc _) .nil))))
theorem wf_rt (x:Rt):WF 0 (rtA x):=.agg _ (.cons _ _ (.sc _) (.cons _ _ (.sc _) .nil))
theorem wf_vr (x:Vr):WF 0 (vrA x):=.agg _ (.cons _ _ (.sc _) (.cons _ _ (.sc _) (.cons _ _ (.sc _) (.cons _ _ (.sc _) .nil))))
theorem wf_ch (x:Ch):WF 0 (chA x):=.agg _ (.cons _ _ (.sc _) (.cons _ _ (.sc _) (.cons _ _ (.sc _) .nil)))
theorem IsCns.wf {l:List Cn} {S:AVal} (h:IsCns l S):WF 0 S:=h.1.wf (WFs.map wf_cn)
theorem IsRts.wf {l:List Rt} {S:AVal} (h:IsRts l S):WF 0 S:=h.1.wf (WFs.map wf_rt)
theorem WF.of_agg {n:Nat} {l:List AVal} (h:WF n (.agg l)):WFs n l:=by cases h; assumption
theorem IsSg.wf {x:Sg} {v:AVal} (h:IsSg x v):WF 0 v:=by
 obtain ⟨a,rfl,h,_⟩:=h
 exact .agg _ (.cons _ _ (.sc _) h.wf.of_agg)
theorem IsLc.wf {x:Lc} {v:AVal} (h:IsLc x v):WF 0 v:=by
 obtain ⟨S,rfl,h,_⟩:=h
 exact .agg _ (.cons _ _ (.sc _) (.cons _ _ h.wf (.cons _ _ (.sc _) .nil)))
theorem IsEg.wf {x:Eg} {v:AVal} (h:IsEg x v):WF 0 v:=by
 obtain ⟨G,a,b,c,d,SS,SR,rfl,hG,hE,hS,hR,_⟩:=h
 have:=hE.wf.of_agg
 cases this with
 | cons _ _ ha h1=>cases h1 with
  | cons _ _ hb h2=>cases h2 with
   | cons _ _ hc h3=>cases h3 with
    | cons _ _ hd _=>exact .agg _ (.cons _ _ (.sc _) (.cons _ _ (.sc _) (.cons _ _ hG.wf (.cons _ _ ha (.cons _ _ hb (.cons _ _ hc (.cons _ _ hd (.cons _ _ (.sc _) (.cons _ _ (.sc _) (.cons _ _ (hS.wf fun _ _=>IsSg.wf) (.cons _ _ hR.wf (.cons _ _ (.sc _) (.cons _ _ (.sc _) .nil)))))))))))))
theorem IsPr.wf {x:Pr} {v:AVal} (h:IsPr x v):WF 0 v:=by
 obtain ⟨SL,SE,rfl,h1,h2,_⟩:=h
 exact .agg _ (.cons _ _ (.sc _) (.cons _ _ (h1.wf fun _ _=>IsLc.wf) (.cons _ _ (h2.wf fun _ _=>IsEg.wf) .nil)))
theorem IsNt.wf {x:Nt} {v:AVal} (h:IsNt x v):WF 0 v:=by
 obtain ⟨SV,SC,SF,SP,fels,rfl,_,hV,hC,hF,hFs,_,hP⟩:=h
 exact .agg _ (.cons _ _ (.sc _) (.cons _ _ (hV.1.wf (WFs.map wf_vr)) (.cons _ _ (hC.1.wf (WFs.map wf_ch)) (.cons _ _ (hF.wf hFs.wf) (.cons _ _ (hP.wf fun _ _=>IsPr.wf) .nil)))))
theorem IsL.at' {α:Type} {sz:Nat} {R:α->AVal->Prop} {l:List α} {S:AVal} (h:IsL sz R l S):∃ els,IsD sz S els/\els.length=l.length/\∀ (j:Nat) x,l[j]?=some x->∃ e,els[j]?=some e/\R x e:=by
 obtain ⟨els,h1,h2,_,h3⟩:=h
 exact ⟨els,h1,h2,h3⟩
def wiB (i n:Int):Bool:=decide (0<=i) && decide (i < n)
def ctB (c:Int):Bool:=decide (0<=c) && decide (c<=1048576)
def raB (c:Int):Bool:=decide (0<=c) && decide (c<=1000)
def cnB (clocks:Int) (x:Cn):Bool:=wiB (x.k - 1) clocks && ctB x.c
def cnsB (clocks:Int) (l:List Cn):Bool:=decide (l.length<=16) && l.all (cnB clocks)
def upB (x:Cn):Bool:=!x.lo && ctB x.c && (decide (0 < x.c) || !x.st)
def lcB (clocks:Int) (x:Lc):Bool:=(wiB x.kind 3 && raB x.rate) && cnsB clocks x.inv && x.inv.all upB
def noE (x:Ex):Bool:=decide (x.k=0) && decide (x.nm.size=0) && decide (x.i=0) && decide (x.args.length=0)
def rtB (clocks:Int) (x:Rt):Bool:=wiB (x.k - 1) clocks && ctB x.to
/-- Are all rules kept so far? -/
def Ru (σ:AStore) (b:Nat) (ok:Bool):Prop:=∃ e:Int,σ.get b=some (.cells 1 [.agg [(.sc (.int .i64 (e)))]])/\decide (e=0)=ok
theorem withinC {w:WD} (i n:Int):GivesV (EE w) 52 [(.sc (.int .i64 (i))),(.sc (.int .i64 (n)))] (.sc (.bool (wiB i n))):=by
 refine GivesV.of gWF (.cons _ _ (.sc _) (.cons _ _ (.sc _) .nil)) 1 ?_
 refine of_52 rfl rfl rfl (by kernel_rfl) ?_
 unfold wiB
 by_cases h:0<=i
 ·simp -implicitDefEqProofs only [go_sem,dct h]
  (repeat' first|refine vw ?_ ?_<;>intro hq|refine vz ?_|simp -implicitDefEqProofs only [go_sem,dct h])
  exact ret_bool (by simp)
 ·simp -implicitDefEqProofs only [go_sem,dcf h]
  (repeat' first|refine vw ?_ ?_<;>intro hq|refine vz ?_|simp -implicitDefEqProofs only [go_sem,dcf h])
  exact ret_bool (by simp)
theorem constantC {w:WD} (c:Int):GivesV (EE w) 53 [(.sc (.int .i64 (c)))] (.sc (.bool (ctB c))):=by
 refine GivesV.of gWF (.cons _ _ (.sc _) .nil) 1 ?_
 refine of_53 rfl rfl rfl (by kernel_rfl) ?_
 unfold ctB
 by_cases h:0<=c
 ·simp -implicitDefEqProofs only [go_sem,dct h]
  (repeat' first|refine vw ?_ ?_<;>intro hq|refine vz ?_|simp -implicitDefEqProofs only [go_sem,dct h])
  exact ret_bool (by simp)
 ·simp -implicitDefEqProofs only [go_sem,dcf h]
  (repeat' first|refine vw ?_ ?_<;>intro hq|refine vz ?_|simp -implicitDefEqProofs only [go_sem,dcf h])
  exact ret_bool (by simp)
theorem rateC {w:WD} (c:Int):GivesV (EE w) 54 [(.sc (.int .i64 (c)))] (.sc (.bool (raB c))):=by
 refine GivesV.of gWF (.cons _ _ (.sc _) .nil) 1 ?_
 refine of_54 rfl rfl rfl (by kernel_rfl) ?_
 unfold raB
 by_cases h:0<=c
 ·simp -implicitDefEqProofs only [go_sem,dct h]
  (repeat' first|refine vw ?_ ?_<;>intro hq|refine vz ?_|simp -implicitDefEqProofs only [go_sem,dct h])
  exact ret_bool (by simp)
 ·simp -implicitDefEqProofs only [go_sem,dcf h]
  (repeat' first|refine vw ?_ ?_<;>intro hq|refine vz ?_|simp -implicitDefEqProofs only [go_sem,dcf h])
  exact ret_bool (by simp)
theorem KeepM.refl' (b:Nat) (σ:AStore):KeepM b σ σ:=⟨Nat.le_refl _,fun _ _ _ h=>h⟩
theorem KeepM.set' (σ:AStore) (b:Nat) (x:ABlk):KeepM b σ (σ.set b x):=⟨by rw [set_next]; exact Nat.le_refl _,fun c y hc h=>by rw [AStore.get_set,if_neg (fun h=>hc h.1)]; exact h⟩
theorem demandC {w:WD} {σ:AStore} {b:Nat} {ok h:Bool} {c:Int} (hc:c≠0) (hr:Ru σ b ok):
  ACalls (EE w) 47 [.ptr b 0 0,(.sc (.bool (h))),(.sc (.int .i64 (c)))] σ fun en σ'=>(∃ v,en=.ret v)/\KeepM b σ σ'/\Ru σ' b (ok && h):=by
 obtain ⟨e0,g0,rfl⟩:=hr
 have hlt:=AStore.lt_of_get g0
 refine of_47 rfl rfl rfl (by kernel_rfl) ?_
 simp -implicitDefEqProofs only [go_sem,g0]
 by_cases he:e0=0
 ·cases h with
  | true=>
   simp -implicitDefEqProofs only [go_sem,g0,dct he]
   (repeat' first|refine vw ?_ ?_<;>intro hq|refine vz ?_|simp -implicitDefEqProofs only [go_sem,g0,dct he])
   exact ⟨⟨_,rfl⟩,KeepM.refl' b σ,e0,g0,by simp [he]⟩
  | false=>
   simp -implicitDefEqProofs only [go_sem,g0,dct he]
   (repeat' first|refine vw ?_ ?_<;>intro hq|refine vz ?_|simp -implicitDefEqProofs only [go_sem,g0,dct he])
   exact ⟨⟨_,rfl⟩,KeepM.set' σ b _,c,by rw [AStore.get_set,if_pos ⟨rfl,hlt⟩],by simp [hc]⟩
 ·simp -implicitDefEqProofs only [go_sem,g0,dcf he]
  (repeat' first|refine vw ?_ ?_<;>intro hq|refine vz ?_|simp -implicitDefEqProofs only [go_sem,g0,dcf he])
  exact ⟨⟨_,rfl⟩,KeepM.refl' b σ,e0,g0,by simp [he]⟩
theorem demandT {w:WD} {σ:AStore} {b:Nat} {ok:Bool} {c:Int} (hr:Ru σ b ok):
  ACalls (EE w) 47 [.ptr b 0 0,(.sc (.bool (true))),(.sc (.int .i64 (c)))] σ fun en σ'=>(∃ v,en=.ret v)/\KeepM b σ σ'/\Ru σ' b ok:=by
 obtain ⟨e0,g0,rfl⟩:=hr
 have hlt:=AStore.lt_of_get g0
 refine of_47 rfl rfl rfl (by kernel_rfl) ?_
 simp -implicitDefEqProofs only [go_sem,g0]
 by_cases he:e0=0
 ·simp -implicitDefEqProofs only [go_sem,g0,dct he]
  (repeat' first|refine vw ?_ ?_<;>intro hq|refine vz ?_|simp -implicitDefEqProofs only [go_sem,g0,dct he])
  exact ⟨⟨_,rfl⟩,KeepM.refl' b σ,e0,g0,by simp [he]⟩
 ·simp -implicitDefEqProofs only [go_sem,g0,dcf he]
  (repeat' first|refine vw ?_ ?_<;>intro hq|refine vz ?_|simp -implicitDefEqProofs only [go_sem,g0,dcf he])
  exact ⟨⟨_,rfl⟩,KeepM.refl' b σ,e0,g0,by simp [he]⟩
theorem takeC {w:WD} {σ:AStore} {b:Nat} {ok:Bool} {c:Int} (hr:Ru σ b ok):
  ACalls (EE w) 57 [.ptr b 0 0,(.sc (.int .i64 (c)))] σ fun en σ'=>(∃ v,en=.ret v)/\KeepM b σ σ'/\Ru σ' b (ok && decide (c=0)):=by
 refine of_57 rfl rfl rfl (by kernel_rfl) ?_
 by_cases hc:c=0
 ·simp -implicitDefEqProofs only [go_sem,dct hc]
  refine (demandT hr).mono ?_
  rintro _ σ' ⟨⟨v,rfl⟩,k,r⟩
  simp -implicitDefEqProofs only [go_sem]
  exact ⟨⟨_,rfl⟩,k,by simpa [hc] using r⟩
 ·simp -implicitDefEqProofs only [go_sem,dcf hc]
  refine (demandC hc hr).mono ?_
  rintro _ σ' ⟨⟨v,rfl⟩,k,r⟩
  simp -implicitDefEqProofs only [go_sem]
  exact ⟨⟨_,rfl⟩,k,by simpa [hc] using r⟩
theorem upperC {w:WD} {σ:AStore} {b:Nat} {ok:Bool} {x:Cn} (hr:Ru σ b ok):
  ACalls (EE w) 55 [.ptr b 0 0,cnA x] σ fun en σ'=>(∃ v,en=.ret v)/\KeepM b σ σ'/\Ru σ' b (ok && upB x):=by
 obtain ⟨k,lo,st,c⟩:=x
 have hlt:=AStore.lt_of_get hr.choose_spec.1
 have hr1:∀ y,Ru (σ.alloc y) b ok:=fun y=>⟨_,get_alloc_old hr.choose_spec.1,hr.choose_spec.2⟩
 have hk1:∀ y,KeepM b σ (σ.alloc y):=fun y=>(KeepS.alloc σ y).m
 refine of_55 rfl rfl rfl (by kernel_rfl) ?_
 simp -implicitDefEqProofs only [go_sem,cnA]
 cases hb1:decide ((0:Int)<=c)<;>cases hb2:decide (c<=(1048576:Int))<;>cases hb3:decide ((0:Int) < c)<;>cases lo<;>cases st
 all_goals
  simp -implicitDefEqProofs only [go_sem,hb1,hb2,hb3]
  (try (repeat' first|refine vw ?_ ?_<;>intro hq|refine vz ?_|simp -implicitDefEqProofs only [go_sem,hb1,hb2,hb3]))
  refine (demandC (by decide) (hr1 _)).mono ?_
  rintro _ σ' ⟨⟨v,rfl⟩,k',r⟩
  simp -implicitDefEqProofs only [go_sem]
  exact ⟨⟨_,rfl⟩,(hk1 _).trans k',by simpa [upB,ctB,hb1,hb2,hb3] using r⟩
theorem emptyC {w:WD} {x:Ex} {v:AVal} (h:IsEx x v):GivesV (EE w) 56 [v] (.sc (.bool (noE x))):=by
 have hwf:=h.wf
 obtain ⟨k,nm,i,l⟩:=x
 simp only [IsEx] at h
 obtain ⟨S,els,rfl,hS,hx,hk,hi,hn,hl⟩:=h
 have hlen:=hx.len
 have hSn:=fun σ:AStore=>hS.lenN hlen (σ:=σ)
 have kS:=hS.fit
 have cS:=hS.cells
 have iS:=hS.isCell
 refine GivesV.of gWF (.cons _ _ hwf .nil) 1 ?_
 refine of_56 rfl rfl rfl (by kernel_rfl) ?_
 simp -implicitDefEqProofs only [go_sem,kS,cS,iS]
 have g0:(empty.alloc (.cells 4 [.agg [(.sc (.int .i64 (k))),.sc (.string nm),(.sc (.int .i64 (i))),S]])).get 0=some (.cells 4 [.agg [(.sc (.int .i64 (k))),.sc (.string nm),(.sc (.int .i64 (i))),S]]):=by rw [AStore.get_alloc]; rfl
 have hsz:decide (nm=⟨#[]⟩)=decide (nm.size=0):=by
  refine decide_eq_decide.2 ⟨fun h=>by rw [h]; rfl,fun h=>?_⟩
  cases nm with
  | mk bs=>exact congrArg ByteArray.mk (Array.eq_empty_of_size_eq_zero h)
 have hln:decide ((l.length:Int)=0)=decide (l.length=0):=decide_eq_decide.2 (by omega)
 rw [show noE (.mk k nm i l)=(decide (k=0) && decide (nm.size=0) && decide (i=0) && decide (l.length=0)) from rfl]
 cases hb1:decide (k=0)<;>cases hb2:decide (nm.size=0)<;>cases hb3:decide (i=0)<;>cases hb4:decide (l.length=0)
 all_goals
  rw [hb2] at hsz
  rw [hb4] at hln
  simp -implicitDefEqProofs only [go_sem,hb1,hsz,hb3,hln,g0,hSn,ba_list]
  (try (repeat' first|refine vw ?_ ?_<;>intro hq|refine vz ?_|simp -implicitDefEqProofs only [go_sem,hb1,hsz,hb3,hln,g0,hSn,ba_list]))
  exact ret_bool (by first|rfl|simp)
theorem bookC {w:WD} {x:Ex} {X S L:AVal} {els:List AVal} {fs:List Fc} {g:List ByteArray} (hX:IsEx x X) (hxb:nodesE x<=1099511627776) (hL:IsD 3 L els) (hl:IsFcs fs els) (hlen:els.length<=281474976710656) (hb:fs.length<=0)
  (hS:IsD 1 S (g.map sA)) (hg:g.length<=281474976710656):GivesV (EE w) 58 [.agg [S,L],X] (.sc (.int .i64 (expP nameB x g fs))):=by
 obtain ⟨c1,c2,c3⟩:=hX.isA.facts
 have cc:=hX.cellsOk
 have hfit:X.fit=true:=by obtain ⟨cs,rfl,_⟩:=hX.isA; rfl
 have kS:=hS.fit
 have cS:=hS.cells
 have iS:=hS.isCell
 have kL:=hL.fit
 have cL:=hL.cells
 have iL:=hL.isCell
 refine GivesV.of gWF (.cons _ _ (.agg _ (.cons _ _ (hS.wf (wf_sA _)) (.cons _ _ (hL.wf hl.wf) .nil))) (.cons _ _ hX.wf .nil)) 2 ?_
 refine of_58 rfl rfl rfl (by kernel_rfl) ?_
 simp -implicitDefEqProofs only [go_sem,kS,cS,iS,kL,cL,iL,c1,c2,c3,cc,hfit]
 have g0:((empty.alloc (.cells 2 [.agg [S,L]])).alloc (.cells 4 [X])).get 0=some (.cells 2 [.agg [S,L]]):=get_alloc_old (by rw [AStore.get_alloc]; rfl)
 have g1:((empty.alloc (.cells 2 [.agg [S,L]])).alloc (.cells 4 [X])).get 1=some (.cells 4 [X]):=by rw [AStore.get_alloc]; rfl
 generalize (empty.alloc (.cells 2 [.agg [S,L]])).alloc (.cells 4 [X])=τ at g0 g1 ⊢
 (repeat' first|refine vw ?_ ?_<;>intro hq|refine vz ?_|simp -implicitDefEqProofs only [go_sem,g0,g1,kS,cS,iS,kL,cL,iL,c1,c2,c3,cc,hfit])
 refine (tExpTC hX hxb hL hl hlen hb hS hg).use ?_
 (repeat' first|refine vw ?_ ?_<;>intro hq|refine vz ?_|simp -implicitDefEqProofs only [go_sem])
 exact ⟨_,rfl,rfl⟩
def bareB (chans:List Ch) (x:Eg):Bool:=
 if 0<=x.ch then (match chans[x.ch.toNat]? with
  | some c=>decide (x.gd.length=0) || (!c.ur && (!c.bc || x.snd))
  | none=>true) else true
theorem bareC {w:WD} {σ:AStore} {b:Nat} {ok:Bool} {chans:List Ch} {SC v:AVal} {x:Eg} (hr:Ru σ b ok) (hC:IsD 3 SC (chans.map chA)) (hv:IsEg x v) (hin:ok=true->x.ch < chans.length):
  ACalls (EE w) 59 [.ptr b 0 0,SC,v] σ fun en σ'=>(∃ v,en=.ret v)/\KeepM b σ σ'/\Ru σ' b (ok && bareB chans x):=by
 obtain ⟨fr,to,gd,cd,ch,snd,ss,rs,cost,kind⟩:=x
 obtain ⟨G,a,a2,a3,a4,SS,SR,rfl,hG,hE,hSs,hR,i1,i2,i3,i4,i5⟩:=hv
 have hr1:∀ y,Ru (σ.alloc y) b ok:=fun y=>⟨_,get_alloc_old hr.choose_spec.1,hr.choose_spec.2⟩
 have hk1:∀ y,KeepM b σ (σ.alloc y):=fun y=>(KeepS.alloc σ y).m
 obtain ⟨e0,g0,rfl⟩:=hr
 have hlt:=AStore.lt_of_get g0
 have kG:=hG.1.fit
 have cG:=hG.1.cells
 have iG:=hG.1.isCell
 have hGn:∀ σ:AStore,aLen (.slice 0) G σ=some (.sc (.int .i64 (gd.length))):=fun σ=>by have:=hG.1.len (σ:=σ); rwa [List.length_map] at this
 obtain ⟨els,hS1,_⟩:=hSs.at'
 have kS:=hS1.fit
 have cS:=hS1.cells
 have iS:=hS1.isCell
 have kR:=hR.1.fit
 have cR:=hR.1.cells
 have iR:=hR.1.isCell
 obtain ⟨c1,c2,c3⟩:=hE.isA.facts
 have cc:=hE.cellsOk
 refine of_59 rfl rfl rfl (by kernel_rfl) ?_
 simp -implicitDefEqProofs only [go_sem,kG,cG,iG,kS,cS,iS,kR,cR,iR]
 simp only at hin i3 hG hGn
 have gz:∀ y,(σ.alloc y).get σ.next=some y:=fun y=>by rw [AStore.get_alloc,if_pos rfl]
 have gb:∀ y,(σ.alloc y).get b=some (.cells 1 [.agg [(.sc (.int .i64 (e0)))]]):=fun y=>get_alloc_old g0
 generalize hyy:ABlk.cells 13 [.agg [(.sc (.int .i64 (fr))),(.sc (.int .i64 (to))),G,a,a2,a3,a4,(.sc (.int .i64 (ch))),(.sc (.bool (snd))),SS,SR,(.sc (.int .i64 (cost))),(.sc (.int .i64 (kind)))]]=yy at gz gb hr1 hk1 ⊢
 have gz':=(gz yy).trans (congrArg some hyy.symm)
 have gb':=gb yy
 have hr':=hr1 yy
 have hk':=hk1 yy
 have hn':(σ.alloc yy).next=σ.next+1:=rfl
 clear gz gb hr1 hk1
 generalize σ.alloc yy=τ at gz' gb' hr' hk' hn' ⊢
 have hbn:¬ b=σ.next:=by omega
 by_cases h0:(0:Int)<=ch
 ·by_cases he:e0=0
  ·obtain ⟨m,rfl⟩:∃ m:Nat,ch=m:=⟨ch.toNat,vom⟩
   have hlt2:m < chans.length:=by have:=hin (dct he); omega
   obtain ⟨c,hc⟩:∃ c,chans[m]?=some c:=⟨chans[m]'hlt2,by simp⟩
   have hc':(chans.map chA)[m]?=some (chA c):=by rw [List.getElem?_map,hc]; rfl
   have hix:=fun (σ:AStore)=>hC.idx (σ:=σ) (k:=.i64) hc'
   obtain ⟨cn,cb,cu⟩:=c
   have hval:bareB chans ⟨fr,to,gd,cd,(m:Int),snd,ss,rs,cost,kind⟩=(decide (gd.length=0) || (!cu && (!cb || snd))):=by
    unfold bareB
    simp only [if_pos h0,Int.toNat_natCast,hc]
   have hgl:decide ((gd.length:Int)=0)=decide (gd.length=0):=decide_eq_decide.2 (by omega)
   rw [hval]
   have hrr:∀ y z,Ru ((τ.alloc y).set τ.next z) b (decide (e0=0)):=fun y z=>⟨e0,by
    have:=AStore.lt_of_get gb'
    rw [AStore.get_set,if_neg (by omega)]; exact get_alloc_old gb',rfl⟩
   have hkk:∀ y z,KeepM b τ ((τ.alloc y).set τ.next z):=fun y z=>((KeepS.alloc τ y).set (Nat.le_refl _) z).m
   have hzn:¬ σ.next=τ.next:=by omega
   have hzn2:σ.next < τ.next:=by omega
   cases hb1:decide (gd.length=0)<;>cases cu<;>cases cb<;>cases snd
   all_goals
    rw [hb1] at hgl
    simp -implicitDefEqProofs only [go_sem,dct h0,gz',gb',hbn,g0,dct he,hix,chA,sA,hGn,hgl,hzn,hzn2]
    (try (repeat' first|refine vw ?_ ?_<;>intro hq|refine vz ?_|simp -implicitDefEqProofs only [go_sem,dct h0,gz',gb',hbn,g0,dct he,hix,chA,sA,hGn,hgl,hzn,hzn2]))
    refine (demandC (c:=120) (by decide) (hrr _ _)).mono ?_
    rintro _ σ' ⟨⟨v,rfl⟩,k',r⟩
    simp -implicitDefEqProofs only [go_sem]
    exact ⟨⟨_,rfl⟩,(hk'.trans (hkk _ _)).trans k',by simpa [he] using r⟩
  ·simp -implicitDefEqProofs only [go_sem,dct h0,gz',gb',hbn,g0,dcf he]
   (repeat' first|refine vw ?_ ?_<;>intro hq|refine vz ?_|simp -implicitDefEqProofs only [go_sem,dct h0,gz',gb',hbn,g0,dcf he])
   exact ⟨⟨_,rfl⟩,hk',e0,gb',by simp [he]⟩
 ·have hval:bareB chans ⟨fr,to,gd,cd,ch,snd,ss,rs,cost,kind⟩=true:=by
   unfold bareB
   rw [if_neg h0]
  rw [hval,Bool.and_true]
  simp -implicitDefEqProofs only [go_sem,dcf h0,gz',gb']
  (repeat' first|refine vw ?_ ?_<;>intro hq|refine vz ?_|simp -implicitDefEqProofs only [go_sem,dcf h0,gz',gb'])
  exact ⟨⟨_,rfl⟩,hk',e0,gb',rfl⟩
theorem get_al {σ:AStore} {b:Nat} {x y z:ABlk} (h:σ.get b=some x):((σ.alloc y).set σ.next z).get b=some x:=by
 have:=AStore.lt_of_get h
 rw [AStore.get_set,if_neg (by omega)]; exact get_alloc_old h
theorem Own.al {σ:AStore} {sz:Nat} {v:AVal} {els:List AVal} (h:Own σ sz v els) (y z:ABlk):Own ((σ.alloc y).set σ.next z) sz v els:=h.mono fun _ _ _ hg=>get_al hg
theorem frz_sAs {σ:AStore} (l:List ByteArray) {M:Nat} (hM:1<=M):mapO (Abs.frz σ M) (l.map sA)=some (l.map sA):=by
 obtain ⟨M,rfl⟩:∃ k,M=k+1:=⟨M - 1,vom⟩
 induction l with
 | nil=>rfl
 | cons p ps ih=>rw [List.map_cons,mapO_cons',ih]; rfl
/-- A list in local memory. -/
def Sl (σ:AStore) (A:AVal) (els:List AVal):Prop:=∃ b,A=.slice b 0 els.length/\σ.get b=some (.cells 1 els)
theorem namesC {w:WD} {vars:List Vr} {chans:List Ch} {fs:List Fc} {SV SC SF:AVal} {fels:List AVal} (hV:IsD 4 SV (vars.map vrA)) (hC:IsD 3 SC (chans.map chA)) (hF:IsD 3 SF fels) (hl:IsFcs fs fels)
  (lv:vars.length<=1000000) (lc:chans.length<=1000000) (lf:fs.length<=1000000):
  Gives (EE w) 46 [(.sc (.slice none 0 0)),SV,SC,SF,(.sc (.slice none 0 0))] fun r=>IsD 1 r ((vars.map Vr.nm++chans.map Ch.nm++fs.map Fc.nm).map sA):=by
 have hVn:∀ σ:AStore,aLen (.slice 0) SV σ=some (.sc (.int .i64 (vars.length))):=fun σ=>by have:=hV.len (σ:=σ); rwa [List.length_map] at this
 have hCn:∀ σ:AStore,aLen (.slice 0) SC σ=some (.sc (.int .i64 (chans.length))):=fun σ=>by have:=hC.len (σ:=σ); rwa [List.length_map] at this
 have hFn:∀ σ:AStore,aLen (.slice 0) SF σ=some (.sc (.int .i64 (fs.length))):=fun σ=>hF.lenN hl.len
 refine Gives.of gWF (.cons _ _ (.sc _) (.cons _ _ (hV.wf (WFs.map wf_vr)) (.cons _ _ (hC.wf (WFs.map wf_ch)) (.cons _ _ (hF.wf hl.wf) (.cons _ _ (.sc _) .nil))))) 3 ?_
 refine of_46 rfl rfl rfl (by kernel_rfl) ?_
 simp -implicitDefEqProofs only [go_sem,hVn]
 have hA:Sl ((empty.alloc (.cells 1 [])).set 0 (.cells 1 [])) (.slice 0 0 0) (([]:List ByteArray).map sA):=⟨0,rfl,by rw [AStore.get_set,if_pos ⟨rfl,by decide⟩]; rfl⟩
 generalize (empty.alloc (.cells 1 [])).set 0 (.cells 1 [])=τ at hA ⊢
 obtain ⟨A,hAA⟩:∃ A:AVal,A=.slice 0 0 0:=⟨_,rfl⟩
 rw [<-hAA] at hA ⊢
 refine vlp (ι:=AVal×Nat) (fun p=>[(1,SV),(2,SC),(3,SF),(4,(.sc (.slice none 0 0))),(11,p.1),(23,SV),(24,(.sc (.int .i64 (vars.length)))),(25,(.sc (.int .i64 (p.2))))]) (fun p τ=>p.2<=vars.length/\Sl τ p.1 ((([]:List ByteArray)++(vars.map Vr.nm).take p.2).map sA)) (fun p=>vars.length - p.2) (fun _=>rfl) (A,0) ?_ ?_ ?_
 ·exact vsu
 ·exact ⟨Nat.zero_le _,by simpa using hA⟩
 clear hA
 rintro ⟨A,j⟩ τ ⟨hj,hA⟩
 simp only at hj hA
 obtain ⟨b,hAe,hb⟩:=hA
 simp -implicitDefEqProofs only [go_sem]
 (refine vif ?_ ?_<;>intro hlt)
 ·obtain ⟨x,hx⟩:∃ x,vars[j]?=some x:=⟨vars[j]'(by omega),by simp⟩
  have hx':(vars.map vrA)[j]?=some (vrA x):=by rw [List.getElem?_map,hx]; rfl
  have hix:=fun (σ:AStore)=>hV.idx (σ:=σ) (k:=.i64) hx'
  obtain ⟨nm,vlo,vhi,vin⟩:=x
  have hw:=wrapS (i:=j) (by omega)
  have htk:(vars.map Vr.nm).take (j+1)=(vars.map Vr.nm).take j++[nm]:=by rw [List.take_add_one,List.getElem?_map,hx]; rfl
  have hel:((([]:List ByteArray)++(vars.map Vr.nm).take j).map sA).length=(([]:List ByteArray)).length+j:=by simp; omega
  have hbt:=AStore.lt_of_get hb
  have hb2:(((τ.alloc (.cells 4 [.agg [.sc (.string ⟨#[]⟩),(.sc (.int .i64 (0))),(.sc (.int .i64 (0))),(.sc (.int .i64 (0)))]])).set τ.next (.cells 4 [.agg [.sc (.string nm),(.sc (.int .i64 (vlo))),(.sc (.int .i64 (vhi))),(.sc (.int .i64 (vin)))]])).alloc (.cells 1 [.sc (.string nm)])).get b=some (.cells 1 ((([]:List ByteArray)++(vars.map Vr.nm).take j).map sA)):=get_alloc_old (get_al hb)
  have a1:=app_full (bytes:=16) (xs:=[.sc (.string nm)]) hb2 (by simp) (by rw [hel]; simp; omega) (by decide) (by decide) rfl
  rw [<-hAe,hel,show [AVal.sc (.string nm)].length=1 from rfl] at a1
  simp only [alloc_next,set_next] at a1
  have hz1:τ.next < τ.next+1:=Nat.lt_succ_self _
  (repeat' first|refine vw ?_ ?_<;>intro hq|refine vz ?_|simp -implicitDefEqProofs only [go_sem,hix,vrA,sA,a1,hw,hz1])
  refine ⟨(.slice (τ.next+1+1) 0 (j+1),j+1),vom,⟨vom,τ.next+1+1,?_,?_⟩,vsu⟩
  ·dsimp only
   rw [htk]; simp; omega
  ·dsimp only
   rw [AStore.get_alloc,if_pos (by rfl),htk]
   simp [sA]
 ·obtain rfl:j=vars.length:=by omega
  rw [List.take_of_length_le (by simp)] at hb hAe
  have hA:Sl τ A ((([]:List ByteArray)++vars.map Vr.nm).map sA):=⟨b,hAe,hb⟩
  clear hAe hb
  (repeat' first|refine vw ?_ ?_<;>intro hq|refine vz ?_|simp -implicitDefEqProofs only [go_sem,hCn])
  refine vlp (ι:=AVal×Nat) (fun p=>[(1,SV),(2,SC),(3,SF),(4,(.sc (.slice none 0 0))),(11,p.1),(35,SC),(36,(.sc (.int .i64 (chans.length)))),(37,(.sc (.int .i64 (p.2))))]) (fun p τ=>p.2<=chans.length/\Sl τ p.1 (((vars.map Vr.nm)++(chans.map Ch.nm).take p.2).map sA)) (fun p=>chans.length - p.2) (fun _=>rfl) (A,0) ?_ ?_ ?_
  ·exact vsu
  ·exact ⟨Nat.zero_le _,by simpa using hA⟩
  clear hA
  rintro ⟨A,j⟩ τ ⟨hj,hA⟩
  simp only at hj hA
  obtain ⟨b,hAe,hb⟩:=hA
  simp -implicitDefEqProofs only [go_sem]
  (refine vif ?_ ?_<;>intro hlt)
  ·obtain ⟨x,hx⟩:∃ x,chans[j]?=some x:=⟨chans[j]'(by omega),by simp⟩
   have hx':(chans.map chA)[j]?=some (chA x):=by rw [List.getElem?_map,hx]; rfl
   have hix:=fun (σ:AStore)=>hC.idx (σ:=σ) (k:=.i64) hx'
   obtain ⟨nm,cb,cu⟩:=x
   have hw:=wrapS (i:=j) (by omega)
   have htk:(chans.map Ch.nm).take (j+1)=(chans.map Ch.nm).take j++[nm]:=by rw [List.take_add_one,List.getElem?_map,hx]; rfl
   have hel:(((vars.map Vr.nm)++(chans.map Ch.nm).take j).map sA).length=((vars.map Vr.nm)).length+j:=by simp; omega
   have hbt:=AStore.lt_of_get hb
   have hb2:(((τ.alloc (.cells 3 [.agg [.sc (.string ⟨#[]⟩),(.sc (.bool (false))),(.sc (.bool (false)))]])).set τ.next (.cells 3 [.agg [.sc (.string nm),(.sc (.bool (cb))),(.sc (.bool (cu)))]])).alloc (.cells 1 [.sc (.string nm)])).get b=some (.cells 1 (((vars.map Vr.nm)++(chans.map Ch.nm).take j).map sA)):=get_alloc_old (get_al hb)
   have a1:=app_full (bytes:=16) (xs:=[.sc (.string nm)]) hb2 (by simp) (by rw [hel]; simp; omega) (by decide) (by decide) rfl
   rw [<-hAe,hel,show [AVal.sc (.string nm)].length=1 from rfl] at a1
   simp only [alloc_next,set_next] at a1
   have hz1:τ.next < τ.next+1:=Nat.lt_succ_self _
   (repeat' first|refine vw ?_ ?_<;>intro hq|refine vz ?_|simp -implicitDefEqProofs only [go_sem,hix,chA,sA,a1,hw,hz1])
   refine ⟨(.slice (τ.next+1+1) 0 (vars.length+j+1),j+1),vom,⟨vom,τ.next+1+1,?_,?_⟩,vsu⟩
   ·dsimp only
    rw [htk]; simp; omega
   ·dsimp only
    rw [AStore.get_alloc,if_pos (by rfl),htk]
    simp [sA]
  ·obtain rfl:j=chans.length:=by omega
   rw [List.take_of_length_le (by simp)] at hb hAe
   have hA:Sl τ A (((vars.map Vr.nm)++chans.map Ch.nm).map sA):=⟨b,hAe,hb⟩
   clear hAe hb
   (repeat' first|refine vw ?_ ?_<;>intro hq|refine vz ?_|simp -implicitDefEqProofs only [go_sem,hFn])
   refine vlp (ι:=AVal×Nat) (fun p=>[(1,SV),(2,SC),(3,SF),(4,(.sc (.slice none 0 0))),(11,p.1),(47,SF),(48,(.sc (.int .i64 (fs.length)))),(49,(.sc (.int .i64 (p.2))))]) (fun p τ=>p.2<=fs.length/\Sl τ p.1 (((vars.map Vr.nm++chans.map Ch.nm)++(fs.map Fc.nm).take p.2).map sA)) (fun p=>fs.length - p.2) (fun _=>rfl) (A,0) ?_ ?_ ?_
   ·exact vsu
   ·exact ⟨Nat.zero_le _,by simpa using hA⟩
   clear hA
   rintro ⟨A,j⟩ τ ⟨hj,hA⟩
   simp only at hj hA
   obtain ⟨b,hAe,hb⟩:=hA
   simp -implicitDefEqProofs only [go_sem]
   (refine vif ?_ ?_<;>intro hlt)
   ·obtain ⟨x,hx⟩:∃ x,fs[j]?=some x:=⟨fs[j]'(by omega),by simp⟩
    obtain ⟨e,he,hfe⟩:=hl.at' j x hx
    obtain ⟨SP,SB,eb,rfl,hP,hB,_⟩:=hfe
    have hix:=fun (σ:AStore)=>hF.idx (σ:=σ) (k:=.i64) he
    have kP:=hP.fit
    have cP:=hP.cells
    have iP:=hP.isCell
    have kB:=hB.fit
    have cB:=hB.cells
    have iB:=hB.isCell
    obtain ⟨nm,fps,fbody⟩:=x
    have hw:=wrapS (i:=j) (by omega)
    have htk:(fs.map Fc.nm).take (j+1)=(fs.map Fc.nm).take j++[nm]:=by rw [List.take_add_one,List.getElem?_map,hx]; rfl
    have hel:(((vars.map Vr.nm++chans.map Ch.nm)++(fs.map Fc.nm).take j).map sA).length=((vars.map Vr.nm++chans.map Ch.nm)).length+j:=by simp; omega
    have hbt:=AStore.lt_of_get hb
    have hb2:(((τ.alloc (.cells 3 [.agg [.sc (.string ⟨#[]⟩),(.sc (.slice none 0 0)),(.sc (.slice none 0 0))]])).set τ.next (.cells 3 [.agg [.sc (.string nm),SP,SB]])).alloc (.cells 1 [.sc (.string nm)])).get b=some (.cells 1 (((vars.map Vr.nm++chans.map Ch.nm)++(fs.map Fc.nm).take j).map sA)):=get_alloc_old (get_al hb)
    have a1:=app_full (bytes:=16) (xs:=[.sc (.string nm)]) hb2 (by simp) (by rw [hel]; simp; omega) (by decide) (by decide) rfl
    rw [<-hAe,hel,show [AVal.sc (.string nm)].length=1 from rfl] at a1
    simp only [alloc_next,set_next] at a1
    have hz1:τ.next < τ.next+1:=Nat.lt_succ_self _
    (repeat' first|refine vw ?_ ?_<;>intro hq|refine vz ?_|simp -implicitDefEqProofs only [go_sem,hix,kP,cP,iP,kB,cB,iB,a1,hw,hz1])
    refine ⟨(.slice (τ.next+1+1) 0 (vars.length+chans.length+j+1),j+1),vom,⟨vom,τ.next+1+1,?_,?_⟩,vsu⟩
    ·dsimp only
     rw [htk]; simp; omega
    ·dsimp only
     rw [AStore.get_alloc,if_pos (by rfl),htk]
     simp [sA]
   ·obtain rfl:j=fs.length:=by omega
    rw [List.take_of_length_le (by simp)] at hb hAe
    have hA:Sl τ A (((vars.map Vr.nm++chans.map Ch.nm)++fs.map Fc.nm).map sA):=⟨b,hAe,hb⟩
    clear hAe hb
    (repeat' first|refine vw ?_ ?_<;>intro hq|refine vz ?_|simp -implicitDefEqProofs only [go_sem,len_sc])
    have hz0:decide ((0:Int) < ((0:Nat):Int))=false:=rfl
    refine vlp (ι:=Unit) (fun _=>[(11,A),(59,(.sc (.slice none 0 0))),(60,(.sc (.int .i64 (((0:Nat):Int))))),(61,(.sc (.int .i64 (0))))]) (fun _ τ=>Sl τ A ((vars.map Vr.nm++chans.map Ch.nm++fs.map Fc.nm).map sA)) (fun _=>0) (fun _=>rfl) () ?_ ?_ ?_
    ·exact vsu
    ·exact hA
    clear hA
    rintro _ τ ⟨b,hAe,hb⟩
    simp -implicitDefEqProofs only [go_sem,hz0]
    (try refine vzf ?_)
    (repeat' first|refine vw ?_ ?_<;>intro hq|refine vz ?_|simp -implicitDefEqProofs only [go_sem])
    refine ⟨A,.data 1 false ((vars.map Vr.nm++chans.map Ch.nm++fs.map Fc.nm).map sA),rfl,?_,.inr ⟨_,rfl⟩⟩
    rw [hAe,frz_slice,hb,frzS_cells (by simp),List.drop_zero,List.take_of_length_le (Nat.le_refl _),frz_sAs _ (by decide)]; rfl
theorem ms_put {σ:AStore} {b c i:Nat} {m:List (ByteArray×AVal)} {k:ByteArray} {v v':AVal} (h:getM m k=some (i,v)):msAt σ b .string (.string k) v' (some (.map (strM m) c))=some (σ.set b (.map (strM (m.set i (k,v'))) c)):=by
 have:(strM m).set i (.sc (.string k),v')=strM (m.set i (k,v')):=by simp [strM,List.map_set]
 simp only [msAt,aFind_str,h,Option.map_some,Nat.zero_add,this]
/-- The keys in the order in which they came first. -/
def dedA:List ByteArray->List ByteArray->List ByteArray
 | acc,[]=>acc
 | acc,k::l=>dedA (if k∈acc then acc else acc++[k]) l
theorem dedA_snoc:∀ (l acc:List ByteArray) (k:ByteArray),dedA acc (l++[k])=if k∈dedA acc l then dedA acc l else dedA acc l++[k]
 | [],acc,k=>rfl
 | x::l,acc,k=>dedA_snoc l _ k
theorem dedA_len:∀ (l acc:List ByteArray),acc.Nodup->(dedA acc l).length<=acc.length+l.length/\(dedA acc l).Nodup/\((dedA acc l).length=acc.length+l.length ↔ (acc++l).Nodup)
  | [],acc,h=>by simp [dedA,h]
  | x :: l, acc, h => by
      rw [dedA]
      split
      · rename_i hx
        obtain ⟨h1,h2,h3⟩:=dedA_len l acc h
        refine ⟨by simp; omega,h2,?_⟩
        constructor
        · intro h4; simp at h4; omega
        · intro h4
          rw [List.nodup_append] at h4
          exact absurd rfl (h4.2.2 x hx x (by simp))
      · rename_i hx
        have hn:(acc++[x]).Nodup:=by
          rw [List.nodup_append]
          exact ⟨h,by simp,fun a ha b hb=>by simp at hb; subst hb; rintro rfl; exact hx ha⟩
        obtain ⟨h1,h2,h3⟩:=dedA_len l (acc++[x]) hn
        rw [List.append_assoc] at h3
        refine ⟨by simp at h1 ⊢; omega,h2,?_⟩
        rw [<-show acc++([x]++l)=acc++x::l from rfl,<-h3]
        simp; omega
def ded (l:List ByteArray):List ByteArray:=dedA [] l
theorem ded_snoc {l:List ByteArray} {k:ByteArray}:ded (l++[k])=if k∈ded l then ded l else ded l++[k]:=dedA_snoc l [] k
theorem ded_len (l:List ByteArray):(ded l).length<=l.length/\((ded l).length=l.length ↔ l.Nodup):=by
 obtain ⟨h1,_,h3⟩:=dedA_len l [] (by simp)
 simp only [List.length_nil,Nat.zero_add,List.nil_append] at h1 h3
 exact ⟨h1,h3⟩
def lenMap:Option ABlk->Option AVal
 | some (.map kvs _)=>some (.sc (.int .i64 (kvs.length)))
 | _=>none
theorem bi_lenM {E:Env} {σ:AStore} {t:TypeId} {b:Nat} (h:kindD E t=some .map):opBi E .len [t] σ (some [.map b])=.ofV σ (lenMap (σ.get b)):=by
 unfold kindD at h
 simp only [opBi,aBuiltin]
 cases hE:E.ty t with
 | none=>rw [hE] at h; cases h
 | some i=>
  rw [hE] at h
  obtain ⟨k,v,he⟩:∃ k v,i.desc=.map k v:=by cases hd:i.desc<;>simp_all
  simp only [he,aLen]
  cases hg:σ.get b with
  | none=>rfl
  | some x=>cases x<;>rfl
theorem ln_118 {w:WD} {σ:AStore} {b:Nat}:opBi (EE w) .len [166] σ (some [.map b])=.ofV σ (lenMap (σ.get b)):=bi_lenM (by kernel_rfl)
theorem lenMap_some {kvs:List (AVal×AVal)} {c:Nat}:lenMap (some (.map kvs c))=some (.sc (.int .i64 (kvs.length))):=rfl
theorem idC {w:WD} (s:ByteArray):GivesV (EE w) 90 [sA s] (sA s):=by
 refine GivesV.of gWF (.cons _ _ (.sc _) .nil) 1 ?_
 refine of_90 rfl rfl rfl (by kernel_rfl) ?_
 simp -implicitDefEqProofs only [go_sem,sA]
 exact ⟨_,rfl,rfl⟩
theorem numberedC {w:WD} {l:List ByteArray} {S:AVal} {σ:AStore} (hS:IsD 1 S (l.map sA)) (ll:l.length<=1000000):
  ACalls (EE w) 89 [S,(.sc (.int .i64 (0))),.func (.func 90) [] []] σ fun e σ'=>∃ b m c,e=.ret (.map b)/\σ'.get b=some (.map (strM m) c)/\m.map (·.1)=ded l:=by
 have hSn:∀ σ:AStore,aLen (.slice 0) S σ=some (.sc (.int .i64 (l.length))):=fun σ=>by have:=hS.len (σ:=σ); rwa [List.length_map] at this
 refine of_89 rfl rfl rfl (by kernel_rfl) ?_
 simp -implicitDefEqProofs only [go_sem,hSn]
 refine vlp (ι:=Nat) (fun j=>[(1,(.sc (.int .i64 (0)))),(2,.func (.func 90) [] []),(7,.map σ.next),(11,S),(12,(.sc (.int .i64 (l.length)))),(13,(.sc (.int .i64 (j))))]) (fun j τ=>j<=l.length/\∃ m c,τ.get σ.next=some (.map (strM m) c)/\m.map (·.1)=ded (l.take j)) (fun j=>l.length - j) (fun _=>rfl) 0 ?_ ?_ ?_
 ·exact vsu
 ·exact ⟨Nat.zero_le _,[],0,by rw [AStore.get_alloc,if_pos rfl]; rfl,rfl⟩
 rintro j τ ⟨hj,m,c,hm,hk⟩
 simp -implicitDefEqProofs only [go_sem]
 (refine vif ?_ ?_<;>intro hlt)
 ·obtain ⟨x,hx⟩:∃ x,l[j]?=some x:=⟨l[j]'(by omega),by simp⟩
  have hx':(l.map sA)[j]?=some (.sc (.string x)):=by rw [List.getElem?_map,hx]; rfl
  have hix:=fun (σ:AStore)=>hS.idx (σ:=σ) (k:=.i64) hx'
  have hw:=wrapS (i:=j) (by omega)
  have hw0:IntKind.i64.wrap ((j:Int)+0)=(j:Int):=by rw [wrap64 (by omega) (by omega)]; omega
  have htk:l.take (j+1)=l.take j++[x]:=by rw [List.take_add_one,hx]; rfl
  have hlm:=AStore.lt_of_get hm
  (repeat' first|refine vw ?_ ?_<;>intro hq|refine vz ?_|simp -implicitDefEqProofs only [go_sem,hix])
  refine (idC x).use ?_
  cases hg:getM m x with
  | none=>
   have h1:=ms_new (σ:=τ) (b:=σ.next) (c:=c) (v:=(.sc (.int .i64 (j)))) hg
   have hnm:x ∉ m.map (·.1):=by
    intro hx
    obtain ⟨⟨k,v⟩,hp,rfl⟩:=List.mem_map.1 hx
    exact getM_none.1 hg v hp
   (repeat' first|refine vw ?_ ?_<;>intro hq|refine vz ?_|simp -implicitDefEqProofs only [go_sem,hm,sA,ms_str,h1,hw,hw0])
   refine ⟨j+1,vom,⟨by omega,_,_,by rw [AStore.get_set,if_pos ⟨rfl,hlm⟩],?_⟩,vsu⟩
   rw [List.map_append,hk,htk,ded_snoc,<-hk,if_neg hnm]; rfl
  | some q=>
   obtain ⟨i,v⟩:=q
   have h1:=ms_put (σ:=τ) (b:=σ.next) (c:=c) (v':=(.sc (.int .i64 (j)))) hg
   have hgi:=getM_some hg
   have hmem:x∈m.map (·.1):=List.mem_map.2 ⟨(x,v),List.mem_of_getElem? hgi,rfl⟩
   (repeat' first|refine vw ?_ ?_<;>intro hq|refine vz ?_|simp -implicitDefEqProofs only [go_sem,hm,sA,ms_str,h1,hw,hw0])
   refine ⟨j+1,vom,⟨by omega,_,_,by rw [AStore.get_set,if_pos ⟨rfl,hlm⟩],?_⟩,vsu⟩
   rw [htk,ded_snoc,<-hk,if_pos hmem]
   apply List.ext_getElem?
   intro a
   rw [List.getElem?_map,List.getElem?_map,List.getElem?_set]
   split
   ·rename_i he
    subst he
    split
    ·rw [hgi]; rfl
    ·rename_i h; rw [List.getElem?_eq_none (by omega)] at hgi; cases hgi
   ·rfl
 ·obtain rfl:j=l.length:=by omega
  rw [List.take_length] at hk
  (repeat' first|refine vw ?_ ?_<;>intro hq|refine vz ?_|simp -implicitDefEqProofs only [go_sem])
  exact ⟨_,m,c,rfl,hm,hk⟩
theorem differentC {w:WD} {l:List ByteArray} {S:AVal} (hS:IsD 1 S (l.map sA)) (ll:l.length<=1000000):GivesV (EE w) 48 [S] (.sc (.bool (decide l.Nodup))):=by
 have hSn:∀ σ:AStore,aLen (.slice 0) S σ=some (.sc (.int .i64 (l.length))):=fun σ=>by have:=hS.len (σ:=σ); rwa [List.length_map] at this
 refine GivesV.of gWF (.cons _ _ (hS.wf (wf_sA _)) .nil) 2 ?_
 refine of_48 rfl rfl rfl (by kernel_rfl) ?_
 simp -implicitDefEqProofs only [go_sem]
 refine (numberedC hS ll).mono ?_
 rintro _ σ' ⟨b,m,c,rfl,hm,hk⟩
 have hml:m.length=(ded l).length:=by rw [<-hk,List.length_map]
 have hstr:(strM m).length=m.length:=by simp [strM]
 simp -implicitDefEqProofs only [go_sem,ln_118,hm,lenMap_some,hSn,hstr]
 refine ret_bool ?_
 refine decide_eq_decide.2 ?_
 rw [<-(ded_len l).2,<-hml]
 omega
theorem mapO_app {f:AVal->Option AVal}:∀ {a b:List AVal} {c d:List AVal},mapO f a=some c->mapO f b=some d->mapO f (a++b)=some (c++d)
  | [],b,c,d,h,h2=>by cases h; exact h2
  | x :: a, b, c, d, h, h2 => by
      obtain ⟨y,ys,h1,h3,rfl⟩:=mapO_cons h
      rw [List.cons_append,mapO_cons',h1,mapO_app h3 h2]; rfl
/-- A call that is lent a list of names among data. -/
theorem lentM {E:Env} (hG:∀ g,WF 0 (E.G g)) {f:FuncId} {σ:AStore} {M:AVal} {g:List ByteArray} {pre post:List AVal} {v:AVal} (hv:∃ N,frz empty N v=some v/\(∀ τ,frz τ N v=some v/\ownV τ N v=true)) (hM:HasO σ M g) (dp:Dats pre) (dq:Dats post)
  (h:∀ M',IsD 1 M' (g.map sA)->GivesV E f (pre++M'::post) v):ACalls E f (pre++M::post) σ fun e σ'=>σ'=σ/\e=.ret v:=by
 obtain ⟨N,_,hN⟩:=hv
 rcases hM with hM|⟨b,rfl,hb⟩
 ·exact h M hM σ
 ·obtain ⟨N1,h1⟩:=Dats.frz (σ:=σ.only [b]) dp
  obtain ⟨N2,h2⟩:=Dats.frz (σ:=σ.only [b]) dq
  obtain ⟨N4,h4⟩:=Dats.frz (σ:=σ.only [b]) (dats_sA g)
  have hs:Abs.frz (σ.only [b]) (N1+N2+N4+1) (.slice b 0 g.length)=some (.data 1 false (g.map sA)):=by
   rw [frz_slice,only_self hb,frzS_cells (by simp),List.drop_zero,List.take_of_length_le (by simp),h4 _ (by omega)]; rfl
  refine (ACalls.pureT hG (N:=N) (h (.data 1 false (g.map sA)) (.inr ⟨false,rfl⟩) empty) ?_ σ (bs:=[b]) (M:=N1+N2+N4+1) (mapO_app (h1 _ (by omega)) (by rw [mapO_cons',hs,h2 _ (by omega)]; rfl))).mono ?_
  ·rintro e σ0 ⟨rfl,rfl⟩
   exact ⟨.ret v,by simp [frzE,(hN _).1],(hN _).2⟩
  ·rintro e σ' ⟨h1,e0,σ0,⟨rfl,rfl⟩,h3⟩
   simp only [frzE,(hN _).1,Option.map_some,Option.some.injEq] at h3
   exact ⟨h1,h3.symm⟩
theorem Own.hasO {σ:AStore} {A:AVal} {g:List ByteArray} (h:Own σ 1 A (g.map sA)):HasO σ A g:=by
 rcases h with ⟨h,rfl⟩|⟨_,b,rfl,hb⟩
 ·exact .inl (.inl ⟨h,_,_,rfl⟩)
 ·refine .inr ⟨b,by simp,hb⟩
theorem HasO.keepM {σ τ:AStore} {b:Nat} {A:AVal} {g:List ByteArray} {ok:Bool} (h:HasO σ A g) (hr:Ru σ b ok) (hk:KeepM b σ τ):HasO τ A g:=by
 rcases h with h|⟨c,rfl,hc⟩
 ·exact .inl h
 ·refine .inr ⟨c,rfl,hk.2 _ _ ?_ hc⟩
  rintro rfl
  obtain ⟨e,he,_⟩:=hr
  rw [hc] at he
  injection he with he
  injection he with _ he
  cases g with
  | nil=>cases he
  | cons x g=>injection he with h1 _; cases h1
theorem bookL {w:WD} {σ:AStore} {x:Ex} {X A L:AVal} {els:List AVal} {fs:List Fc} {g:List ByteArray} (hX:IsEx x X) (hxb:nodesE x<=1099511627776) (hL:IsD 3 L els) (hl:IsFcs fs els) (hlen:els.length<=281474976710656) (hb:fs.length<=0)
  (hA:HasO σ A g) (hg:g.length<=281474976710656):ACalls (EE w) 58 [.agg [A,L],X] σ fun e σ'=>σ'=σ/\e=.ret (.sc (.int .i64 (expP nameB x g fs))):=by
 rcases hA with hA|⟨b,rfl,hb'⟩
 ·exact bookC hX hxb hL hl hlen hb hA hg σ
 ·obtain ⟨N1,h1⟩:=Dat.frz (σ:=σ.only [b]) hX.dat
  obtain ⟨N2,h2⟩:=Dat.frz (σ:=σ.only [b]) (hL.dat hl.dat)
  obtain ⟨N4,h4⟩:=Dats.frz (σ:=σ.only [b]) (dats_sA g)
  refine GivesV.lent gWF (bookC hX hxb hL hl hlen hb (S:=.data 1 false (g.map sA)) (.inr ⟨false,rfl⟩) hg) σ (bs:=[b]) (M:=N1+N2+N4+2) ?_
  have hs:Abs.frz (σ.only [b]) (N1+N2+N4+1) (.slice b 0 g.length)=some (.data 1 false (g.map sA)):=by
   rw [frz_slice,only_self hb',frzS_cells (by simp),List.drop_zero,List.take_of_length_le (by simp),h4 _ (by omega)]; rfl
  rw [mapO_cons',mapO_cons',mapO_nil',h1 _ (by omega),frz_agg,mapO_cons',mapO_cons',mapO_nil',hs,h2 _ (by omega)]
  rfl
def vrB (x:Vr):Bool:=decide (x.lo<=x.ini) && decide (x.ini<=x.hi)
theorem Ru.al {σ:AStore} {b:Nat} {ok:Bool} (h:Ru σ b ok) (y:ABlk):Ru (σ.alloc y) b ok:=by
 obtain ⟨e,h1,h2⟩:=h
 exact ⟨e,get_alloc_old h1,h2⟩
theorem Ru.als {σ:AStore} {b:Nat} {ok:Bool} (h:Ru σ b ok) (y z:ABlk):Ru ((σ.alloc y).set σ.next z) b ok:=by
 obtain ⟨e,h1,h2⟩:=h
 exact ⟨e,get_al h1,h2⟩
theorem KeepM.als {b:Nat} (σ:AStore) (y z:ABlk):KeepM b σ ((σ.alloc y).set σ.next z):=((KeepS.alloc σ y).set (Nat.le_refl _) z).m
theorem Ru.lt {σ:AStore} {b:Nat} {ok:Bool} (h:Ru σ b ok):b < σ.next:=by
 obtain ⟨e,h1,_⟩:=h
 exact AStore.lt_of_get h1
theorem all_take1 {α:Type} {l:List α} {j:Nat} {x:α} {P:α->Bool} (h:l[j]?=some x):(l.take (j+1)).all P=((l.take j).all P && P x):=by
 rw [List.take_add_one,h,List.all_append]
 simp
theorem declaredC {w:WD} {σ:AStore} {b:Nat} {ok:Bool} {vars:List Vr} {fs:List Fc} {SV SF:AVal} {fels:List AVal} {pc:Int} (hr:Ru σ b ok) (hV:IsD 4 SV (vars.map vrA)) (lv:vars.length<=1000000)
  (hF:IsD 3 SF fels) (hl:IsFcs fs fels) (hlen:fels.length<=281474976710656) (hb:fs.length<=0):
  ACalls (EE w) 50 [.ptr b 0 0,SV,SF,(.sc (.int .i64 (pc)))] σ fun en σ'=>∃ A,en=.ret (.agg [A,SF])/\KeepM b σ σ'/\HasO σ' A (vars.map Vr.nm)/\
   Ru σ' b (((ok && vars.all vrB) && decide ((funcsP nameB fs (vars.map Vr.nm)).2=0)) && decide (0 < pc)):=by
 have hVn:∀ σ:AStore,aLen (.slice 0) SV σ=some (.sc (.int .i64 (vars.length))):=fun σ=>by have:=hV.len (σ:=σ); rwa [List.length_map] at this
 have kF:=hF.fit
 have cF:=hF.cells
 have iF:=hF.isCell
 have hbl:=hr.lt
 refine of_50 rfl rfl rfl (by kernel_rfl) ?_
 simp -implicitDefEqProofs only [go_sem,kF,cF,iF,hVn]
 have hk0:KeepM b σ (((σ.alloc (.cells 2 [.agg [(.sc (.slice none 0 0)),(.sc (.slice none 0 0))]])).alloc (.cells 2 [.agg [(.sc (.slice none 0 0)),(.sc (.slice none 0 0))]])).set (σ.next+1) (.cells 2 [.agg [(.sc (.slice none 0 0)),SF]])):=by
  have h1:KeepS σ (σ.alloc (.cells 2 [.agg [(.sc (.slice none 0 0)),(.sc (.slice none 0 0))]])):=KeepS.alloc _ _
  exact h1.m.trans (KeepM.als (σ.alloc (.cells 2 [.agg [(.sc (.slice none 0 0)),(.sc (.slice none 0 0))]])) _ _)
 have hr0:Ru (((σ.alloc (.cells 2 [.agg [(.sc (.slice none 0 0)),(.sc (.slice none 0 0))]])).alloc (.cells 2 [.agg [(.sc (.slice none 0 0)),(.sc (.slice none 0 0))]])).set (σ.next+1) (.cells 2 [.agg [(.sc (.slice none 0 0)),SF]])) b ok:=(hr.al (.cells 2 [.agg [(.sc (.slice none 0 0)),(.sc (.slice none 0 0))]])).als (.cells 2 [.agg [(.sc (.slice none 0 0)),(.sc (.slice none 0 0))]]) _
 have g8:((((σ.alloc (.cells 2 [.agg [(.sc (.slice none 0 0)),(.sc (.slice none 0 0))]])).alloc (.cells 2 [.agg [(.sc (.slice none 0 0)),(.sc (.slice none 0 0))]])).set (σ.next+1) (.cells 2 [.agg [(.sc (.slice none 0 0)),SF]]))).get σ.next=some (.cells 2 [.agg [(.sc (.slice none 0 0)),(.sc (.slice none 0 0))]]):=by
  have:=get_al (σ:=σ.alloc (.cells 2 [.agg [(.sc (.slice none 0 0)),(.sc (.slice none 0 0))]])) (b:=σ.next) (x:=(.cells 2 [.agg [(.sc (.slice none 0 0)),(.sc (.slice none 0 0))]])) (y:=(.cells 2 [.agg [(.sc (.slice none 0 0)),(.sc (.slice none 0 0))]])) (z:=(.cells 2 [.agg [(.sc (.slice none 0 0)),SF]])) (by rw [AStore.get_alloc,if_pos rfl])
  exact this
 have g9:((((σ.alloc (.cells 2 [.agg [(.sc (.slice none 0 0)),(.sc (.slice none 0 0))]])).alloc (.cells 2 [.agg [(.sc (.slice none 0 0)),(.sc (.slice none 0 0))]])).set (σ.next+1) (.cells 2 [.agg [(.sc (.slice none 0 0)),SF]]))).get (σ.next+1)=some (.cells 2 [.agg [(.sc (.slice none 0 0)),SF]]):=by rw [AStore.get_set,if_pos ⟨rfl,by simp only [alloc_next]; omega⟩]
 generalize (((σ.alloc (.cells 2 [.agg [(.sc (.slice none 0 0)),(.sc (.slice none 0 0))]])).alloc (.cells 2 [.agg [(.sc (.slice none 0 0)),(.sc (.slice none 0 0))]])).set (σ.next+1) (.cells 2 [.agg [(.sc (.slice none 0 0)),SF]]))=τ at hk0 hr0 g8 g9 ⊢
 refine vlp (ι:=Nat) (fun j=>[(0,.ptr b 0 0),(2,SF),(3,(.sc (.int .i64 (pc)))),(8,.ptr σ.next 0 0),(9,.ptr (σ.next+1) 0 0),(16,SV),(17,(.sc (.int .i64 (vars.length)))),(18,(.sc (.int .i64 (j))))]) (fun j τ=>j<=vars.length/\KeepM b σ τ/\Ru τ b (ok && (vars.take j).all vrB)/\τ.get σ.next=some (.cells 2 [.agg [(.sc (.slice none 0 0)),(.sc (.slice none 0 0))]])/\∃ A,τ.get (σ.next+1)=some (.cells 2 [.agg [A,SF]])/\Own τ 1 A (((vars.take j).map Vr.nm).map sA)/\∀ c l,A=.slice c 0 l->σ.next+2<=c) (fun j=>vars.length - j) (fun _=>rfl) 0 ?_ ?_ ?_
 ·exact vsu
 ·exact ⟨Nat.zero_le _,hk0,by simpa using hr0,g8,(.sc (.slice none 0 0)),g9,Own.nil,by intro c l h; cases h⟩
 clear hk0 hr0 g8 g9
 rintro j τ ⟨hj,hk,hrj,g8,A,g9,hA,hAc⟩
 have kA:=hA.fit
 have cA:=hA.cells
 have iA:=hA.isCell
 simp -implicitDefEqProofs only [go_sem]
 (refine vif ?_ ?_<;>intro hlt)
 ·obtain ⟨x,hx⟩:∃ x,vars[j]?=some x:=⟨vars[j]'(by omega),by simp⟩
  have hx':(vars.map vrA)[j]?=some (vrA x):=by rw [List.getElem?_map,hx]; rfl
  have hix:=fun (σ:AStore)=>hV.idx (σ:=σ) (k:=.i64) hx'
  have hw:=wrapS (i:=j) (by omega)
  have hat:=all_take1 (P:=vrB) hx
  have htk:(vars.take (j+1)).map Vr.nm=(vars.take j).map Vr.nm++[x.nm]:=by rw [List.take_add_one,hx]; simp
  obtain ⟨nm,lo,hi,ini⟩:=x
  have hvb:vrB ⟨nm,lo,hi,ini⟩=(decide (lo<=ini) && decide (ini<=hi)):=rfl
  have hel:(((vars.take j).map Vr.nm).map sA).length=j:=by simp; omega
  have hnn:=AStore.lt_of_get g9
  cases hb1:decide (lo<=ini)<;>cases hb2:decide (ini<=hi)
  all_goals
   rw [hb1,hb2] at hvb
   simp -implicitDefEqProofs only [go_sem,hix,vrA,sA,hb1,hb2]
   (try (repeat' first|refine vw ?_ ?_<;>intro hq|refine vz ?_|simp -implicitDefEqProofs only [go_sem,hix,vrA,sA,hb1,hb2]))
   refine (demandC (c:=120) (by decide) (hrj.als _ _)).mono ?_
   rintro _ τ' ⟨⟨v,rfl⟩,k',r'⟩
   have q9:=k'.2 _ _ (by omega:σ.next+1≠b) (get_al g9)
   have q8:=k'.2 _ _ (by omega:σ.next≠b) (get_al g8)
   have qx:=k'.2 τ.next (.cells 4 [.agg [.sc (.string nm),(.sc (.int .i64 (lo))),(.sc (.int .i64 (hi))),(.sc (.int .i64 (ini)))]]) (by omega) (by rw [AStore.get_set,if_pos ⟨rfl,by simp only [alloc_next]; omega⟩])
   have qA:Own τ' 1 A (((vars.take j).map Vr.nm).map sA):=hA.mono fun c y hc hg=>k'.2 _ _ (by have:=hAc _ _ hc; omega) (get_al hg)
   obtain ⟨σ',a1,a2,a3,a4⟩:=(qA.alloc (.cells 1 [.sc (.string nm)])).append (bytes:=16) (xs:=[.sc (.string nm)]) (by simp) (by rw [hel]; simp; omega) (by decide) (by decide) rfl
   rw [show (((vars.take j).map Vr.nm).map sA++[AVal.sc (.string nm)]).length=j+1 by rw [List.length_append,hel]; rfl] at a1 a2
   simp only [alloc_next] at a1 a2 a3
   have hτ:=k'.1
   simp only [set_next,alloc_next] at hτ
   have p9:=a4 _ _ (get_alloc_old q9) (fun l hl=>by have:=hAc _ _ hl; omega)
   have p8:=a4 _ _ (get_alloc_old q8) (fun l hl=>by have:=hAc _ _ hl; omega)
   obtain ⟨e2,rb,re⟩:=r'
   have pb:=a4 _ _ (get_alloc_old rb) (fun l hl=>by have:=hAc _ _ hl; omega)
   have hz1:τ'.next < τ'.next+1:=Nat.lt_succ_self _
   have hz2:σ.next+1 < σ'.next:=by omega
   simp -implicitDefEqProofs only [go_sem,q9,qx,a1,p9,kA,cA,iA,kF,cF,iF,hz1,hz2]
   (repeat' first|refine vw ?_ ?_<;>intro hq|refine vz ?_|simp -implicitDefEqProofs only [go_sem,q9,qx,a1,p9,kA,cA,iA,kF,cF,iF,hz1,hz2,hw])
   refine ⟨j+1,vom,⟨by omega,⟨by simp only [set_next]; have:=hk.1; omega,fun c y hc hg=>?_⟩,⟨e2,?_,?_⟩,?_,.slice (τ'.next+1) 0 (j+1),?_,?_,?_⟩,vsu⟩
   ·have hcl:=AStore.lt_of_get hg
    rw [AStore.get_set,if_neg (by omega)]
    exact a4 _ _ (get_alloc_old (k'.2 _ _ hc (get_al (hk.2 _ _ hc hg)))) (fun l hl=>by have:=hAc _ _ hl; omega)
   ·rw [AStore.get_set,if_neg (by omega)]; exact pb
   ·rw [hat,hvb,re]
    cases ok<;>cases (vars.take j).all vrB<;>rfl
   ·rw [AStore.get_set,if_neg (by omega)]; exact p8
   ·rw [AStore.get_set,if_pos ⟨rfl,hz2⟩]
   ·rw [htk,List.map_append]
    refine a2.mono fun c y hc hg=>?_
    injection hc with hc
    rw [AStore.get_set,if_neg (by omega)]; exact hg
   ·intro c l hc
    injection hc with hc
    omega
 ·obtain rfl:j=vars.length:=by omega
  rw [List.take_length] at hrj hA
  have hO:=hA.hasO
  (repeat' first|refine vw ?_ ?_<;>intro hq|refine vz ?_|simp -implicitDefEqProofs only [go_sem,g9,kF,cF,iF,kA,cA,iA])
  have vt:∀ i j:Int,∃ N,frz empty N (.tuple [(.sc (.int .i64 (i))),(.sc (.int .i64 (j)))])=some (.tuple [(.sc (.int .i64 (i))),(.sc (.int .i64 (j)))])/\(∀ τ,frz τ N (.tuple [(.sc (.int .i64 (i))),(.sc (.int .i64 (j)))])=some (.tuple [(.sc (.int .i64 (i))),(.sc (.int .i64 (j)))])/\ownV τ N (.tuple [(.sc (.int .i64 (i))),(.sc (.int .i64 (j)))])=true):=fun i j=>⟨2,rfl,fun _=>⟨rfl,rfl⟩⟩
  refine (lentM (pre:=[SF]) (post:=[]) gWF (vt _ _) hO (.cons _ _ (hF.dat hl.dat) .nil) .nil (fun M' hM'=>tFuncsC hF hl hlen hb hM' (by simp; omega))).use1 ?_
  (repeat' first|refine vw ?_ ?_<;>intro hq|refine vz ?_|simp -implicitDefEqProofs only [go_sem])
  refine (takeC hrj).mono ?_
  rintro _ τ1 ⟨⟨v,rfl⟩,k1,r1⟩
  have hO1:=hO.keepM hrj k1
  have g81:=k1.2 _ _ (by omega:σ.next≠b) g8
  have g91:=k1.2 _ _ (by omega:σ.next+1≠b) g9
  (repeat' first|refine vw ?_ ?_<;>intro hq|refine vz ?_|simp -implicitDefEqProofs only [go_sem])
  refine (demandC (c:=120) (by decide) r1).mono ?_
  rintro _ τ2 ⟨⟨v,rfl⟩,k2,r2⟩
  have hO2:=hO1.keepM r1 k2
  have g82:=k2.2 _ _ (by omega:σ.next≠b) g81
  have g92:=k2.2 _ _ (by omega:σ.next+1≠b) g91
  have hzz:=AStore.lt_of_get g82
  (repeat' first|refine vw ?_ ?_<;>intro hq|refine vz ?_|simp -implicitDefEqProofs only [go_sem,g82,g92,kF,cF,iF,kA,cA,iA,hzz])
  have hkk:=hk.trans (k1.trans k2)
  refine ⟨A,rfl,⟨by rw [set_next]; exact hkk.1,fun c y hc hg=>?_⟩,?_,?_⟩
  ·have:=AStore.lt_of_get hg
   rw [AStore.get_set,if_neg (by omega)]; exact hkk.2 _ _ hc hg
  ·rcases hO2 with h|⟨c,rfl,hc⟩
   ·exact .inl h
   ·refine .inr ⟨c,rfl,?_⟩
    have:=hAc _ _ rfl
    rw [AStore.get_set,if_neg (by omega)]; exact hc
  ·obtain ⟨e,he,hre⟩:=r2
   exact ⟨e,by rw [AStore.get_set,if_neg (by omega)]; exact he,hre⟩
theorem wi_wrap {k n:Int} (hk:in64 k) (hn:in64 n):wiB (IntKind.i64.wrap (k - 1)) n=wiB (k - 1) n:=by
 obtain ⟨h1,h2⟩:=hk
 obtain ⟨h3,h4⟩:=hn
 by_cases hm:k=-9223372036854775808
 ·subst hm
  have hw:IntKind.i64.wrap (-9223372036854775808 - 1)=9223372036854775807:=by decide
  rw [hw]
  unfold wiB
  rw [dcf (show ¬ (9223372036854775807:Int) < n by omega),dcf (show ¬ (0:Int)<=-9223372036854775808 - 1 by omega)]
  simp
 ·rw [wrap64 (by omega) (by omega)]
theorem consC {w:WD} {σ:AStore} {b bn:Nat} {ok:Bool} {l:List Cn} {S NA SV SC SF SP:AVal} {clocks:Int} (hr:Ru σ b ok) (hNA:NA=.agg [(.sc (.int .i64 (clocks))),SV,SC,SF,SP]) (hn:σ.get bn=some (.cells 5 [NA])) (hbn:bn≠b) (hcl:in64 clocks) (hl:IsCns l S):
  ACalls (EE w) 51 [S,.ptr b 0 0,.ptr bn 0 0] σ fun en σ'=>(∃ v,en=.ret v)/\KeepM b σ σ'/\Ru σ' b (ok && cnsB clocks l):=by
 obtain ⟨hS,ll,hok⟩:=hl
 subst hNA
 have hSn:∀ σ:AStore,aLen (.slice 0) S σ=some (.sc (.int .i64 (l.length))):=fun σ=>by have:=hS.len (σ:=σ); rwa [List.length_map] at this
 have h16:decide ((l.length:Int)<=16)=decide (l.length<=16):=decide_eq_decide.2 (by omega)
 refine of_51 rfl rfl rfl (by kernel_rfl) ?_
 simp -implicitDefEqProofs only [go_sem,hSn,h16]
 refine (demandC (c:=2) (by decide) hr).mono ?_
 rintro _ τ0 ⟨⟨v,rfl⟩,k0,r0⟩
 have n0:=k0.2 _ _ hbn hn
 (repeat' first|refine vw ?_ ?_<;>intro hq|refine vz ?_|simp -implicitDefEqProofs only [go_sem,hSn])
 refine vlp (ι:=Nat) (fun j=>[(1,.ptr b 0 0),(2,.ptr bn 0 0),(10,S),(11,(.sc (.int .i64 (l.length)))),(12,(.sc (.int .i64 (j))))]) (fun j τ=>j<=l.length/\KeepM b σ τ/\Ru τ b ((ok && decide (l.length<=16)) && (l.take j).all (cnB clocks))/\τ.get bn=some (.cells 5 [.agg [(.sc (.int .i64 (clocks))),SV,SC,SF,SP]])) (fun j=>l.length - j) (fun _=>rfl) 0 ?_ ?_ ?_
 ·exact vsu
 ·exact ⟨Nat.zero_le _,k0,by simpa using r0,n0⟩
 clear k0 r0 n0
 rintro j τ ⟨hj,hk,hrj,hn⟩
 have hbl:=hrj.lt
 have hnl:=AStore.lt_of_get hn
 simp -implicitDefEqProofs only [go_sem]
 (refine vif ?_ ?_<;>intro hlt)
 ·obtain ⟨x,hx⟩:∃ x,l[j]?=some x:=⟨l[j]'(by omega),by simp⟩
  have hx':(l.map cnA)[j]?=some (cnA x):=by rw [List.getElem?_map,hx]; rfl
  have hix:=fun (σ:AStore)=>hS.idx (σ:=σ) (k:=.i64) hx'
  have hw:=wrapS (i:=j) (by omega)
  have hat:=all_take1 (P:=cnB clocks) hx
  have hox:=hok x (List.mem_of_getElem? hx)
  obtain ⟨k,lo,st,c⟩:=x
  have hcb:cnB clocks ⟨k,lo,st,c⟩=(wiB (k - 1) clocks && ctB c):=rfl
  have hwi:=wi_wrap hox.1 hcl
  have hne:¬ bn=τ.next:=by omega
  have hz:τ.next < τ.next+1:=Nat.lt_succ_self _
  have gx:∀ y z,((τ.alloc y).set τ.next z).get τ.next=some z:=fun y z=>by rw [AStore.get_set,if_pos ⟨rfl,by simp only [alloc_next]; omega⟩]
  cases hb1:wiB (k - 1) clocks with
  | false=>
   rw [hb1] at hwi hcb
   (repeat' first|refine vw ?_ ?_<;>intro hq|refine vz ?_|simp -implicitDefEqProofs only [go_sem,hix,cnA,hn,hne,hz])
   refine (withinC _ _).use ?_
   (repeat' first|refine vw ?_ ?_<;>intro hq|refine vz ?_|simp -implicitDefEqProofs only [go_sem,hwi])
   refine (demandC (c:=2) (by decide) (hrj.als _ _)).mono ?_
   rintro _ τ' ⟨⟨v,rfl⟩,k',r'⟩
   (repeat' first|refine vw ?_ ?_<;>intro hq|refine vz ?_|simp -implicitDefEqProofs only [go_sem,hw])
   exact ⟨j+1,vom,⟨by omega,(hk.trans (KeepM.als _ _ _)).trans k',by rw [hat,hcb]; simpa [Bool.and_assoc] using r',k'.2 _ _ hbn (get_al hn)⟩,vsu⟩
  | true=>
   rw [hb1] at hwi hcb
   (repeat' first|refine vw ?_ ?_<;>intro hq|refine vz ?_|simp -implicitDefEqProofs only [go_sem,hix,cnA,hn,hne,hz])
   refine (withinC _ _).use ?_
   (repeat' first|refine vw ?_ ?_<;>intro hq|refine vz ?_|simp -implicitDefEqProofs only [go_sem,hwi,hix,cnA,hn,hne,hz])
   refine (constantC _).use ?_
   (repeat' first|refine vw ?_ ?_<;>intro hq|refine vz ?_|simp -implicitDefEqProofs only [go_sem])
   refine (demandC (c:=2) (by decide) (hrj.als _ _)).mono ?_
   rintro _ τ' ⟨⟨v,rfl⟩,k',r'⟩
   (repeat' first|refine vw ?_ ?_<;>intro hq|refine vz ?_|simp -implicitDefEqProofs only [go_sem,hw])
   exact ⟨j+1,vom,⟨by omega,(hk.trans (KeepM.als _ _ _)).trans k',by rw [hat,hcb]; simpa [Bool.and_assoc] using r',k'.2 _ _ hbn (get_al hn)⟩,vsu⟩
 ·obtain rfl:j=l.length:=by omega
  rw [List.take_length] at hrj
  (repeat' first|refine vw ?_ ?_<;>intro hq|refine vz ?_|simp -implicitDefEqProofs only [go_sem])
  exact ⟨⟨_,rfl⟩,hk,by simpa [cnsB,Bool.and_assoc] using hrj⟩
end Abs
end
