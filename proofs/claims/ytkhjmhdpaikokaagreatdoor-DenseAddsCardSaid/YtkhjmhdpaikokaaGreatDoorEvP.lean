/-
  Functions of the program walked: each is shown to compute a plain function (EvP).
-/
import Derived.Test.YtkhjmhdpaikokaaGreatDoorTF
import Derived.Test.YtkhjmhdpaikokaaGreatDoorT11
import Derived.Test.YtkhjmhdpaikokaaGreatDoorT1
set_option linter.unusedSimpArgs false
set_option linter.unusedVariables false
set_option maxRecDepth 100000
set_option maxHeartbeats 16000000
noncomputable section
namespace Abs
open Go Go.Proofs
def oneI (p:Bool):Int:=if p then 1 else 0
def opV (k a b:Int):Int:=
 if k=3 then -a else if k=4 then oneI (decide (a=0)) else if k=5 then a+b else if k=6 then a - b else if k=7 then a*b
 else if k=8 then a.tdiv b else if k=9 then a.tmod b else if k=10 then oneI (decide (a < b)) else if k=11 then oneI (decide (a<=b))
 else if k=12 then oneI (decide (a=b)) else if k=13 then oneI (!decide (a=b)) else if k=14 then oneI (decide (b<=a)) else oneI (decide (b < a))
/-- 100: division by nothing; 7: too great. -/
def finV (eM eR:Int) (k a b:Int):Int×Int:=
 if (k=8\/k=9)/\b=0 then (0,eM) else if opV k a b > 2147483648\/opV k a b < -2147483648 then (0,eR) else (opV k a b,0)
/-- The first error. -/
def errL:List (Int×Int)->Int
 | []=>0
 | p::l=>if p.2=0 then errL l else p.2
def valL (l:List (Int×Int)) (i:Nat):Int:=((l[i]?).map (·.1)).getD 0
def errA (l:List (Int×Int)) (i:Nat):Int:=((l[i]?).map (·.2)).getD 0
def cmb (eM eR:Int) (k nv i:Int) (l:List (Int×Int)):Int×Int:=
 if k=1 then (i,0) else if k=2 then (nv,0)
 else if k=16 then (if errA l 0≠0 then (0,errA l 0) else if valL l 0=0 then (0,0) else if errA l 1≠0 then (0,errA l 1) else (oneI (!decide (valL l 1=0)),0))
 else if k=17 then (if errA l 0≠0 then (0,errA l 0) else if valL l 0≠0 then (1,0) else if errA l 1≠0 then (0,errA l 1) else (oneI (!decide (valL l 1=0)),0))
 else if k=18 then (if errA l 0≠0 then (0,errA l 0) else if valL l 0≠0 then (valL l 1,errA l 1) else (valL l 2,errA l 2))
 else if errL l≠0 then (0,errL l) else finV eM eR k (valL l 0) (valL l 1)
variable (eM eR:Int) (g:ByteArray->Int)
mutual
def evX:Ex->Int×Int
 | .mk k nm i zs=>cmb eM eR k (g nm) i (evXs zs)
def evXs:List Ex->List (Int×Int)
 | []=>[]
 | x::xs=>evX x::evXs xs
end
theorem evXs_map:∀ l,evXs eM eR g l=l.map (evX eM eR g)
 | []=>rfl
 | x::xs=>by simp [evXs,evXs_map xs]
mutual
/-- Well-formed, and without calls. -/
def okX:Ex->Bool
 | .mk k _ i zs=>arityB k zs.length && (!decide (k=19) && (decide (-2147483648<=i) && decide (i<=2147483648))) && okXs zs
def okXs:List Ex->Bool
 | []=>true
 | x::xs=>okX x && okXs xs
end
theorem okXs_mem:∀ {l:List Ex},okXs l=true->∀ x∈l,okX x=true
  | [],_,x,hx=>by cases hx
  | y :: l, h, x, hx => by
      simp only [okXs,Bool.and_eq_true] at h
      rcases List.mem_cons.1 hx with rfl|hx
      · exact h.1
      · exact okXs_mem h.2 x hx
variable {nameB:ByteArray->Bool} {gs os:List ByteArray}
mutual
theorem okX_of:∀ {x:Ex},formedB nameB x=true->expE gs os [] x=0->okX x=true
  | .mk k nm i zs, h, he => by
      simp only [formedB,Bool.and_eq_true] at h
      obtain ⟨⟨⟨ha,_⟩,_,h1,h2⟩,hz⟩:=h
      simp only [expE] at he
      split at he
      · rename_i hE
        have hk:k≠19:=by
          rintro rfl
          simp [fcOf] at he
        simp only [okX,Bool.and_eq_true,Bool.not_eq_true',decide_eq_false_iff_not]
        exact ⟨⟨ha,hk,h1,h2⟩,okXs_of hz hE⟩
      · rename_i hE; exact absurd he hE
theorem okXs_of:∀ {l:List Ex},formedBs nameB l=true->expEs gs os [] l=0->okXs l=true
  | [],_,_=>rfl
  | x :: xs, h, he => by
      simp only [formedBs,Bool.and_eq_true] at h
      simp only [expEs] at he
      split at he
      · rename_i hE
        simp only [okXs,Bool.and_eq_true]
        exact ⟨okX_of h.1 hE,okXs_of h.2 he⟩
      · rename_i hE; exact absurd he hE
end
theorem okX_expP {x:Ex} {gs:List ByteArray} (h:expP nameB x gs []=0):okX x=true/\nodesE x<=400/\fewE x=true:=by
 unfold expP at h
 split at h
 ·rename_i hc
  split at h
  ·unfold checkE at hc
   split at hc
   ·rename_i hf
    split at hc
    ·rename_i hs
     simp only [smallE,Bool.and_eq_true,decide_eq_true_eq] at hs
     exact ⟨okX_of hf h,hs.1.1,hs.2⟩
    ·simp at hc
   ·simp at hc
  ·rename_i hE; exact absurd h hE
 ·rename_i hE; exact absurd h hE
theorem oneI_in (p:Bool):0<=oneI p/\oneI p<=1:=by cases p<;>decide
theorem finV_in (eM eR k a b:Int):-2147483648<=(finV eM eR k a b).1/\(finV eM eR k a b).1<=2147483648:=by
 unfold finV
 split
 ·exact ⟨by show (-2147483648:Int)<=0; decide,by show (0:Int)<=2147483648; decide⟩
 ·split
  ·exact ⟨by show (-2147483648:Int)<=0; decide,by show (0:Int)<=2147483648; decide⟩
  ·rename_i h; show -2147483648<=opV k a b/\opV k a b<=2147483648; omega
/-- Values are small. -/
theorem cmb_in {eM eR k nv i:Int} {l:List (Int×Int)} (h1:-2147483648<=i/\i<=2147483648) (h2:-2147483648<=nv/\nv<=2147483648) (hl:∀ p∈l,-2147483648<=p.1/\p.1<=2147483648):
  -2147483648<=(cmb eM eR k nv i l).1/\(cmb eM eR k nv i l).1<=2147483648:=by
 have hv:∀ j,-2147483648<=valL l j/\valL l j<=2147483648:=by
  intro j
  unfold valL
  cases hj:l[j]? with
  | none=>exact ⟨by decide,by decide⟩
  | some p=>exact hl p (List.mem_of_getElem? hj)
 have h0:-2147483648<=(0:Int)/\(0:Int)<=2147483648:=⟨by decide,by decide⟩
 have ho:∀ p,-2147483648<=oneI p/\oneI p<=2147483648:=fun p=>by have:=oneI_in p; omega
 unfold cmb
 repeat' (first|exact h0|exact h1|exact h2|exact ho _|exact hv _|exact finV_in ..|(show -2147483648<=(1:Int)/\(1:Int)<=2147483648; exact ⟨by decide,by decide⟩)|split)
mutual
theorem evX_in {eM eR:Int} {g:ByteArray->Int} (hg:∀ s,-2147483648<=g s/\g s<=2147483648):∀ {x:Ex},okX x=true->-2147483648<=(evX eM eR g x).1/\(evX eM eR g x).1<=2147483648
  | .mk k nm i zs, h => by
      simp only [okX,Bool.and_eq_true,decide_eq_true_eq] at h
      simp only [evX]
      exact cmb_in h.1.2.2 (hg nm) (evXs_in hg h.2)
theorem evXs_in {eM eR:Int} {g:ByteArray->Int} (hg:∀ s,-2147483648<=g s/\g s<=2147483648):∀ {l:List Ex},okXs l=true->∀ p∈evXs eM eR g l,-2147483648<=p.1/\p.1<=2147483648
  | [],_,p,hp=>by cases hp
  | x :: xs, h, p, hp => by
      simp only [okXs,Bool.and_eq_true] at h
      simp only [evXs,List.mem_cons] at hp
      rcases hp with rfl|hp
      · exact evX_in hg h.1
      · exact evXs_in hg h.2 p hp
end
end Abs
namespace Abs
open Go Go.Proofs
section
variable {E:Env} {n:Nat}
/-- One call that recovers is deferred; the rest is walked with it. -/
theorem Top_undsR {Ed:List ADef->Env} (hEd:∀ ds,{E with ds:=ds}=Ed ds) {d:ADef} {fn:Func} {rs:List ResultVar} (hr:fn.results.toList=rs) {g:FuncId} {cap as':List AVal} (hd:d=⟨.func g,cap,as'⟩) (h0:E.ds=[]) (hfn:E.fns g=true) {R:AEnd->AStore->Prop} {c:Code} {e:Ev} {σ:AStore}
  (h:Z (Ed (d::E.ds)) n c (vFinR (Ed (d::E.ds)) rs g (as'++cap) R) e σ):Top (Ed (d::E.ds)) n c (aEndD E fn R) e σ:=by
 subst hd
 rw [<-hEd] at h ⊢
 refine Top_mono (fun ex a σ h=>aEndD_unds (ds0:=⟨.func g,cap,as'⟩::E.ds) h) ?_
 refine Top_finR (E:={E with ds:=⟨.func g,cap,as'⟩::E.ds}) hr (g:=g) ?_ hfn h
 show _::E.ds=_
 rw [h0]
end
end Abs
namespace Abs
open Go Go.Proofs
def endA (c:Int):AVal:=.iface 264 (.agg [(.sc (.int .i64 (c)))])
def opsL (b1 b2:Nat):List (AVal×AVal):=[((.sc (.int .i64 (3))),.func (.func 184) [] []),((.sc (.int .i64 (4))),.func (.func 185) [] []),((.sc (.int .i64 (5))),.func (.func 187) [] []),((.sc (.int .i64 (6))),.func (.func 188) [] []),((.sc (.int .i64 (7))),.func (.func 189) [] []),((.sc (.int .i64 (8))),.func (.func 183) [] [.ptr b1 0 0]),((.sc (.int .i64 (9))),.func (.func 183) [] [.ptr b2 0 0]),((.sc (.int .i64 (10))),.func (.func 192) [] []),((.sc (.int .i64 (11))),.func (.func 193) [] []),((.sc (.int .i64 (12))),.func (.func 194) [] []),((.sc (.int .i64 (13))),.func (.func 195) [] []),((.sc (.int .i64 (14))),.func (.func 196) [] []),((.sc (.int .i64 (15))),.func (.func 197) [] [])]
def opN (k:Int):FuncId:=if k=3 then 184 else if k=4 then 185 else if k=5 then 187 else if k=6 then 188 else if k=7 then 189 else if k=10 then 192 else if k=11 then 193 else if k=12 then 194 else if k=13 then 195 else if k=14 then 196 else if k=15 then 197 else 183
def opC (b1 b2:Nat) (k:Int):List AVal:=if k=8 then [.ptr b1 0 0] else if k=9 then [.ptr b2 0 0] else []
structure OpsM (σ:AStore) (bo b1 b2:Nat):Prop where
 m:σ.get bo=some (.map (opsL b1 b2) 13)
 d:σ.get b1=some (.cells 1 [.func (.func 190) [] []])
 r:σ.get b2=some (.cells 1 [.func (.func 191) [] []])
theorem op_cases {k:Int} (h1:3<=k) (h2:k<=15):k=3\/k=4\/k=5\/k=6\/k=7\/k=8\/k=9\/k=10\/k=11\/k=12\/k=13\/k=14\/k=15:=by omega
theorem opsL_at {b1 b2:Nat} {k:Int} (h1:3<=k) (h2:k<=15):lkAt (.int .i64) .nilFunc false (.int .i64 k) (some (.map (opsL b1 b2) 13))=some (.func (.func (opN k)) [] (opC b1 b2 k)):=by
 rcases op_cases h1 h2 with rfl|rfl|rfl|rfl|rfl|rfl|rfl|rfl|rfl|rfl|rfl|rfl|rfl<;>rfl
theorem opN_fns {w:WD} {k:Int} (h1:3<=k) (h2:k<=15):(EE w).fns (opN k)=true:=by
 rcases op_cases h1 h2 with rfl|rfl|rfl|rfl|rfl|rfl|rfl|rfl|rfl|rfl|rfl|rfl|rfl<;>kernel_rfl
theorem oneC {w:WD} (p:Bool):GivesV (EE w) 186 [(.sc (.bool (p)))] (.sc (.int .i64 (oneI p))):=by
 refine GivesV.of gWF (.cons _ _ (.sc _) .nil) 1 ?_
 refine of_186 rfl rfl rfl (by kernel_rfl) ?_
 cases p with
 | true=>
  (repeat' first|refine vw ?_ ?_<;>intro hq|refine vz ?_|simp -implicitDefEqProofs only [go_sem])
  exact ⟨_,rfl,rfl⟩
 | false=>
  (repeat' first|refine vw ?_ ?_<;>intro hq|refine vz ?_|simp -implicitDefEqProofs only [go_sem])
  exact ⟨_,rfl,rfl⟩
theorem mul_in31 {a b:Int} (ha:-2147483648<=a/\a<=2147483648) (hb:-2147483648<=b/\b<=2147483648):-4611686018427387904<=a*b/\a*b<=4611686018427387904:=by
 have h1:a.natAbs<=2147483648:=by omega
 have h2:b.natAbs<=2147483648:=by omega
 have h3:(a*b).natAbs<=2147483648*2147483648:=by rw [Int.natAbs_mul]; exact Nat.mul_le_mul h1 h2
 omega
theorem tdiv_wrap {a b:Int} (ha:-2147483648<=a/\a<=2147483648):IntKind.i64.wrap (a.tdiv b)=a.tdiv b:=by
 have h1:(a.tdiv b).natAbs<=a.natAbs:=by rw [Int.natAbs_tdiv]; exact Nat.div_le_self _ _
 exact wrap64 (by omega) (by omega)
theorem ret_inE {σ:AStore} {n:Nat} {b c:Int} (h:b=c):∃ u,AEnd.ret (.sc (.int .i64 (b)))=AEnd.ret u/\frz σ (n+1) u=some (.sc (.int .i64 (c))):=⟨_,rfl,by rw [h]; rfl⟩
theorem op3C {w:WD} {a b:Int} (ha:-2147483648<=a/\a<=2147483648) (hb:-2147483648<=b/\b<=2147483648):GivesV (EE w) 184 [(.sc (.int .i64 (a))),(.sc (.int .i64 (b)))] (.sc (.int .i64 (-a))):=by
 refine GivesV.of gWF (.cons _ _ (.sc _) (.cons _ _ (.sc _) .nil)) 1 ?_
 refine of_184 rfl rfl rfl (by kernel_rfl) ?_
 (repeat' first|refine vw ?_ ?_<;>intro hq|refine vz ?_|simp -implicitDefEqProofs only [go_sem])
 refine ret_inE ?_
 have:=mul_in31 ha hb
 rw [Int.zero_sub]
 exact wrap64 (by omega) (by omega)
theorem op5C {w:WD} {a b:Int} (ha:-2147483648<=a/\a<=2147483648) (hb:-2147483648<=b/\b<=2147483648):GivesV (EE w) 187 [(.sc (.int .i64 (a))),(.sc (.int .i64 (b)))] (.sc (.int .i64 (a+b))):=by
 refine GivesV.of gWF (.cons _ _ (.sc _) (.cons _ _ (.sc _) .nil)) 1 ?_
 refine of_187 rfl rfl rfl (by kernel_rfl) ?_
 (repeat' first|refine vw ?_ ?_<;>intro hq|refine vz ?_|simp -implicitDefEqProofs only [go_sem])
 refine ret_inE ?_
 have:=mul_in31 ha hb
 exact wrap64 (by omega) (by omega)
theorem op6C {w:WD} {a b:Int} (ha:-2147483648<=a/\a<=2147483648) (hb:-2147483648<=b/\b<=2147483648):GivesV (EE w) 188 [(.sc (.int .i64 (a))),(.sc (.int .i64 (b)))] (.sc (.int .i64 (a - b))):=by
 refine GivesV.of gWF (.cons _ _ (.sc _) (.cons _ _ (.sc _) .nil)) 1 ?_
 refine of_188 rfl rfl rfl (by kernel_rfl) ?_
 (repeat' first|refine vw ?_ ?_<;>intro hq|refine vz ?_|simp -implicitDefEqProofs only [go_sem])
 refine ret_inE ?_
 have:=mul_in31 ha hb
 exact wrap64 (by omega) (by omega)
theorem op7C {w:WD} {a b:Int} (ha:-2147483648<=a/\a<=2147483648) (hb:-2147483648<=b/\b<=2147483648):GivesV (EE w) 189 [(.sc (.int .i64 (a))),(.sc (.int .i64 (b)))] (.sc (.int .i64 (a*b))):=by
 refine GivesV.of gWF (.cons _ _ (.sc _) (.cons _ _ (.sc _) .nil)) 1 ?_
 refine of_189 rfl rfl rfl (by kernel_rfl) ?_
 (repeat' first|refine vw ?_ ?_<;>intro hq|refine vz ?_|simp -implicitDefEqProofs only [go_sem])
 refine ret_inE ?_
 have:=mul_in31 ha hb
 exact wrap64 (by omega) (by omega)
theorem op4C {w:WD} {a b:Int}:GivesV (EE w) 185 [(.sc (.int .i64 (a))),(.sc (.int .i64 (b)))] (.sc (.int .i64 (oneI (decide (a=0))))):=by
 refine GivesV.of gWF (.cons _ _ (.sc _) (.cons _ _ (.sc _) .nil)) 1 ?_
 refine of_185 rfl rfl rfl (by kernel_rfl) ?_
 simp -implicitDefEqProofs only [go_sem]
 refine (oneC _).use ?_
 (repeat' first|refine vw ?_ ?_<;>intro hq|refine vz ?_|simp -implicitDefEqProofs only [go_sem])
 exact ret_inE rfl
theorem op10C {w:WD} {a b:Int}:GivesV (EE w) 192 [(.sc (.int .i64 (a))),(.sc (.int .i64 (b)))] (.sc (.int .i64 (oneI (decide (a < b))))):=by
 refine GivesV.of gWF (.cons _ _ (.sc _) (.cons _ _ (.sc _) .nil)) 1 ?_
 refine of_192 rfl rfl rfl (by kernel_rfl) ?_
 simp -implicitDefEqProofs only [go_sem]
 refine (oneC _).use ?_
 (repeat' first|refine vw ?_ ?_<;>intro hq|refine vz ?_|simp -implicitDefEqProofs only [go_sem])
 exact ret_inE rfl
theorem op11C {w:WD} {a b:Int}:GivesV (EE w) 193 [(.sc (.int .i64 (a))),(.sc (.int .i64 (b)))] (.sc (.int .i64 (oneI (decide (a<=b))))):=by
 refine GivesV.of gWF (.cons _ _ (.sc _) (.cons _ _ (.sc _) .nil)) 1 ?_
 refine of_193 rfl rfl rfl (by kernel_rfl) ?_
 simp -implicitDefEqProofs only [go_sem]
 refine (oneC _).use ?_
 (repeat' first|refine vw ?_ ?_<;>intro hq|refine vz ?_|simp -implicitDefEqProofs only [go_sem])
 exact ret_inE rfl
theorem op12C {w:WD} {a b:Int}:GivesV (EE w) 194 [(.sc (.int .i64 (a))),(.sc (.int .i64 (b)))] (.sc (.int .i64 (oneI (decide (a=b))))):=by
 refine GivesV.of gWF (.cons _ _ (.sc _) (.cons _ _ (.sc _) .nil)) 1 ?_
 refine of_194 rfl rfl rfl (by kernel_rfl) ?_
 simp -implicitDefEqProofs only [go_sem]
 refine (oneC _).use ?_
 (repeat' first|refine vw ?_ ?_<;>intro hq|refine vz ?_|simp -implicitDefEqProofs only [go_sem])
 exact ret_inE rfl
theorem op13C {w:WD} {a b:Int}:GivesV (EE w) 195 [(.sc (.int .i64 (a))),(.sc (.int .i64 (b)))] (.sc (.int .i64 (oneI (!decide (a=b))))):=by
 refine GivesV.of gWF (.cons _ _ (.sc _) (.cons _ _ (.sc _) .nil)) 1 ?_
 refine of_195 rfl rfl rfl (by kernel_rfl) ?_
 simp -implicitDefEqProofs only [go_sem]
 refine (oneC _).use ?_
 (repeat' first|refine vw ?_ ?_<;>intro hq|refine vz ?_|simp -implicitDefEqProofs only [go_sem])
 exact ret_inE rfl
theorem op14C {w:WD} {a b:Int}:GivesV (EE w) 196 [(.sc (.int .i64 (a))),(.sc (.int .i64 (b)))] (.sc (.int .i64 (oneI (decide (b<=a))))):=by
 refine GivesV.of gWF (.cons _ _ (.sc _) (.cons _ _ (.sc _) .nil)) 1 ?_
 refine of_196 rfl rfl rfl (by kernel_rfl) ?_
 simp -implicitDefEqProofs only [go_sem]
 refine (oneC _).use ?_
 (repeat' first|refine vw ?_ ?_<;>intro hq|refine vz ?_|simp -implicitDefEqProofs only [go_sem])
 exact ret_inE rfl
theorem op15C {w:WD} {a b:Int}:GivesV (EE w) 197 [(.sc (.int .i64 (a))),(.sc (.int .i64 (b)))] (.sc (.int .i64 (oneI (decide (b < a))))):=by
 refine GivesV.of gWF (.cons _ _ (.sc _) (.cons _ _ (.sc _) .nil)) 1 ?_
 refine of_197 rfl rfl rfl (by kernel_rfl) ?_
 simp -implicitDefEqProofs only [go_sem]
 refine (oneC _).use ?_
 (repeat' first|refine vw ?_ ?_<;>intro hq|refine vz ?_|simp -implicitDefEqProofs only [go_sem])
 exact ret_inE rfl
theorem opd0C {w:WD} {a b:Int} (h0:b≠0) (ha:-2147483648<=a/\a<=2147483648) (hb:-2147483648<=b/\b<=2147483648):GivesV (EE w) 190 [(.sc (.int .i64 (a))),(.sc (.int .i64 (b)))] (.sc (.int .i64 (a.tdiv b))):=by
 refine GivesV.of gWF (.cons _ _ (.sc _) (.cons _ _ (.sc _) .nil)) 1 ?_
 refine of_190 rfl rfl rfl (by kernel_rfl) ?_
 (repeat' first|refine vw ?_ ?_<;>intro hq|refine vz ?_|simp -implicitDefEqProofs only [go_sem,sc_quo h0,sc_rem h0])
 refine ret_inE ?_
 exact tdiv_wrap ha
theorem opd1C {w:WD} {a b:Int} (h0:b≠0) (ha:-2147483648<=a/\a<=2147483648) (hb:-2147483648<=b/\b<=2147483648):GivesV (EE w) 191 [(.sc (.int .i64 (a))),(.sc (.int .i64 (b)))] (.sc (.int .i64 (a.tmod b))):=by
 refine GivesV.of gWF (.cons _ _ (.sc _) (.cons _ _ (.sc _) .nil)) 1 ?_
 refine of_191 rfl rfl rfl (by kernel_rfl) ?_
 (repeat' first|refine vw ?_ ?_<;>intro hq|refine vz ?_|simp -implicitDefEqProofs only [go_sem,sc_quo h0,sc_rem h0])
 refine ret_inE ?_
 rfl
def gval:List (ByteArray×Int)->ByteArray->Int
 | [],_=>0
 | p::l,k=>if p.1=k then p.2 else gval l k
def gM (l:List (ByteArray×Int)):List (ByteArray×AVal):=l.map fun p=>(p.1,(.sc (.int .i64 (p.2))))
theorem getM_g {k:ByteArray}:∀ l:List (ByteArray×Int),lkOut false (.int .i64 0) ((getM (gM l) k).map (·.2))=(.sc (.int .i64 (gval l k)))
  | []=>rfl
  | p :: l => by
      simp only [gM,List.map_cons,getM,gval]
      by_cases h:p.1=k
      · simp only [h,if_true]; rfl
      · simp only [h,if_false]
        rw [<-getM_g l]
        simp only [gM]
        cases getM (l.map fun p=>(p.1,(.sc (.int .i64 (p.2))))) k<;>rfl
theorem lk_g {l:List (ByteArray×Int)} {c:Nat} {k:ByteArray}:lkAt .string (.int .i64 0) false (.string k) (some (.map (strM (gM l)) c))=some (.sc (.int .i64 (gval l k))):=by
 rw [lkAt_map,aFind_str,<-getM_g l]
 cases getM (gM l) k<;>rfl
/-- A machine: the block itself, the values that are given, the operators. -/
structure Mc (σ:AStore) (pm bg bf bo b1 b2:Nat) (n:Nat) (g:List (ByteArray×Int)):Prop where
 m:σ.get pm=some (.cells 4 [.agg [.map bg,.map bf,.map bo,(.sc (.int .i64 (n)))]])
 g:∃ c,σ.get bg=some (.map (strM (gM g)) c)
 o:OpsM σ bo b1 b2
 n1:bg≠pm
 n2:bo≠pm
 n3:b1≠pm
 n4:b2≠pm
theorem Mc.keep {σ σ':AStore} {pm bg bf bo b1 b2 n n':Nat} {g:List (ByteArray×Int)} (h:Mc σ pm bg bf bo b1 b2 n g) (hk:KeepM pm σ σ') (hm:σ'.get pm=some (.cells 4 [.agg [.map bg,.map bf,.map bo,(.sc (.int .i64 (n')))]])):Mc σ' pm bg bf bo b1 b2 n' g:=by
 obtain ⟨m,⟨c,hg⟩,⟨o1,o2,o3⟩,n1,n2,n3,n4⟩:=h
 exact ⟨hm,⟨c,hk.2 _ _ n1 hg⟩,⟨hk.2 _ _ n2 o1,hk.2 _ _ n3 o2,hk.2 _ _ n4 o3⟩,n1,n2,n3,n4⟩
theorem Mc.keepS {σ σ':AStore} {pm bg bf bo b1 b2 n:Nat} {g:List (ByteArray×Int)} (h:Mc σ pm bg bf bo b1 b2 n g) (hk:KeepS σ σ'):Mc σ' pm bg bf bo b1 b2 n g:=h.keep hk.m (hk.2 _ _ h.m)
theorem stepC {w:WD} {σ:AStore} {pm bg bf bo n:Nat} (hm:σ.get pm=some (.cells 4 [.agg [.map bg,.map bf,.map bo,(.sc (.int .i64 (n)))]])) (hn:n < 1000):
  ACalls (EE w) 198 [.ptr pm 0 0] σ fun e σ'=>(∃ v,e=.ret v)/\σ'.get pm=some (.cells 4 [.agg [.map bg,.map bf,.map bo,(.sc (.int .i64 (((n+1:Nat):Int))))]])/\KeepM pm σ σ':=by
 have hlt:=AStore.lt_of_get hm
 have h1:¬ ((n:Int)=1000):=by omega
 have hw:IntKind.i64.wrap ((n:Int)+1)=((n+1:Nat):Int):=wrapS (by omega)
 refine of_198 rfl rfl rfl (by kernel_rfl) ?_
 simp -implicitDefEqProofs only [go_sem,hm,dcf h1]
 (repeat' first|refine vw ?_ ?_<;>intro hq|refine vz ?_|simp -implicitDefEqProofs only [go_sem,hm,hw])
 exact ⟨⟨_,rfl⟩,by rw [if_pos hlt],(KeepM.refl pm σ).set _⟩
theorem ops1C {w:WD} {f:FuncId} {σ:AStore}:ACalls (EE w) 182 [.func (.func f) [] []] σ fun e σ'=>e=.ret (.func (.func 183) [] [.ptr σ.next 0 0])/\σ'=σ.alloc (.cells 1 [.func (.func f) [] []]):=by
 refine of_182 rfl rfl rfl (by kernel_rfl) ?_
 (repeat' first|refine vw ?_ ?_<;>intro hq|refine vz ?_|simp -implicitDefEqProofs only [go_sem])
theorem afo0:aFind (.int .i64) (.int .i64 3) [] 0=some none:=rfl
theorem afo1:aFind (.int .i64) (.int .i64 4) [((.sc (.int .i64 (3))),.func (.func 184) [] [])] 0=some none:=rfl
theorem afo2:aFind (.int .i64) (.int .i64 5) [((.sc (.int .i64 (3))),.func (.func 184) [] []),((.sc (.int .i64 (4))),.func (.func 185) [] [])] 0=some none:=rfl
theorem afo3:aFind (.int .i64) (.int .i64 6) [((.sc (.int .i64 (3))),.func (.func 184) [] []),((.sc (.int .i64 (4))),.func (.func 185) [] []),((.sc (.int .i64 (5))),.func (.func 187) [] [])] 0=some none:=rfl
theorem afo4:aFind (.int .i64) (.int .i64 7) [((.sc (.int .i64 (3))),.func (.func 184) [] []),((.sc (.int .i64 (4))),.func (.func 185) [] []),((.sc (.int .i64 (5))),.func (.func 187) [] []),((.sc (.int .i64 (6))),.func (.func 188) [] [])] 0=some none:=rfl
theorem afo5:aFind (.int .i64) (.int .i64 8) [((.sc (.int .i64 (3))),.func (.func 184) [] []),((.sc (.int .i64 (4))),.func (.func 185) [] []),((.sc (.int .i64 (5))),.func (.func 187) [] []),((.sc (.int .i64 (6))),.func (.func 188) [] []),((.sc (.int .i64 (7))),.func (.func 189) [] [])] 0=some none:=rfl
theorem afo6 {b1:Nat}:aFind (.int .i64) (.int .i64 9) [((.sc (.int .i64 (3))),.func (.func 184) [] []),((.sc (.int .i64 (4))),.func (.func 185) [] []),((.sc (.int .i64 (5))),.func (.func 187) [] []),((.sc (.int .i64 (6))),.func (.func 188) [] []),((.sc (.int .i64 (7))),.func (.func 189) [] []),((.sc (.int .i64 (8))),.func (.func 183) [] [.ptr b1 0 0])] 0=some none:=rfl
theorem afo7 {b1 b2:Nat}:aFind (.int .i64) (.int .i64 10) [((.sc (.int .i64 (3))),.func (.func 184) [] []),((.sc (.int .i64 (4))),.func (.func 185) [] []),((.sc (.int .i64 (5))),.func (.func 187) [] []),((.sc (.int .i64 (6))),.func (.func 188) [] []),((.sc (.int .i64 (7))),.func (.func 189) [] []),((.sc (.int .i64 (8))),.func (.func 183) [] [.ptr b1 0 0]),((.sc (.int .i64 (9))),.func (.func 183) [] [.ptr b2 0 0])] 0=some none:=rfl
theorem afo8 {b1 b2:Nat}:aFind (.int .i64) (.int .i64 11) [((.sc (.int .i64 (3))),.func (.func 184) [] []),((.sc (.int .i64 (4))),.func (.func 185) [] []),((.sc (.int .i64 (5))),.func (.func 187) [] []),((.sc (.int .i64 (6))),.func (.func 188) [] []),((.sc (.int .i64 (7))),.func (.func 189) [] []),((.sc (.int .i64 (8))),.func (.func 183) [] [.ptr b1 0 0]),((.sc (.int .i64 (9))),.func (.func 183) [] [.ptr b2 0 0]),((.sc (.int .i64 (10))),.func (.func 192) [] [])] 0=some none:=rfl
theorem afo9 {b1 b2:Nat}:aFind (.int .i64) (.int .i64 12) [((.sc (.int .i64 (3))),.func (.func 184) [] []),((.sc (.int .i64 (4))),.func (.func 185) [] []),((.sc (.int .i64 (5))),.func (.func 187) [] []),((.sc (.int .i64 (6))),.func (.func 188) [] []),((.sc (.int .i64 (7))),.func (.func 189) [] []),((.sc (.int .i64 (8))),.func (.func 183) [] [.ptr b1 0 0]),((.sc (.int .i64 (9))),.func (.func 183) [] [.ptr b2 0 0]),((.sc (.int .i64 (10))),.func (.func 192) [] []),((.sc (.int .i64 (11))),.func (.func 193) [] [])] 0=some none:=rfl
theorem afo10 {b1 b2:Nat}:aFind (.int .i64) (.int .i64 13) [((.sc (.int .i64 (3))),.func (.func 184) [] []),((.sc (.int .i64 (4))),.func (.func 185) [] []),((.sc (.int .i64 (5))),.func (.func 187) [] []),((.sc (.int .i64 (6))),.func (.func 188) [] []),((.sc (.int .i64 (7))),.func (.func 189) [] []),((.sc (.int .i64 (8))),.func (.func 183) [] [.ptr b1 0 0]),((.sc (.int .i64 (9))),.func (.func 183) [] [.ptr b2 0 0]),((.sc (.int .i64 (10))),.func (.func 192) [] []),((.sc (.int .i64 (11))),.func (.func 193) [] []),((.sc (.int .i64 (12))),.func (.func 194) [] [])] 0=some none:=rfl
theorem afo11 {b1 b2:Nat}:aFind (.int .i64) (.int .i64 14) [((.sc (.int .i64 (3))),.func (.func 184) [] []),((.sc (.int .i64 (4))),.func (.func 185) [] []),((.sc (.int .i64 (5))),.func (.func 187) [] []),((.sc (.int .i64 (6))),.func (.func 188) [] []),((.sc (.int .i64 (7))),.func (.func 189) [] []),((.sc (.int .i64 (8))),.func (.func 183) [] [.ptr b1 0 0]),((.sc (.int .i64 (9))),.func (.func 183) [] [.ptr b2 0 0]),((.sc (.int .i64 (10))),.func (.func 192) [] []),((.sc (.int .i64 (11))),.func (.func 193) [] []),((.sc (.int .i64 (12))),.func (.func 194) [] []),((.sc (.int .i64 (13))),.func (.func 195) [] [])] 0=some none:=rfl
theorem afo12 {b1 b2:Nat}:aFind (.int .i64) (.int .i64 15) [((.sc (.int .i64 (3))),.func (.func 184) [] []),((.sc (.int .i64 (4))),.func (.func 185) [] []),((.sc (.int .i64 (5))),.func (.func 187) [] []),((.sc (.int .i64 (6))),.func (.func 188) [] []),((.sc (.int .i64 (7))),.func (.func 189) [] []),((.sc (.int .i64 (8))),.func (.func 183) [] [.ptr b1 0 0]),((.sc (.int .i64 (9))),.func (.func 183) [] [.ptr b2 0 0]),((.sc (.int .i64 (10))),.func (.func 192) [] []),((.sc (.int .i64 (11))),.func (.func 193) [] []),((.sc (.int .i64 (12))),.func (.func 194) [] []),((.sc (.int .i64 (13))),.func (.func 195) [] []),((.sc (.int .i64 (14))),.func (.func 196) [] [])] 0=some none:=rfl
theorem gsE {σ:AStore} {b:Nat} {x:ABlk} (h:b < σ.next):(σ.set b x).get b=some x:=by rw [AStore.get_set,if_pos ⟨rfl,h⟩]
theorem opsC {w:WD} {σ:AStore}:ACalls (EE w) 172 [] σ fun e σ'=>e=.ret (.map σ.next)/\KeepS σ σ'/\∃ b1 b2,OpsM σ' σ.next b1 b2:=by
 have hms:∀ (τ:AStore) (b:Nat) (k:Int) (v:AVal),aMapSet (.int .i64) (.map b) (.sc (.int .i64 (k))) v τ=msAt τ b (.int .i64) (.int .i64 k) v (τ.get b):=fun τ b k v=>aMapSet_map rfl
 refine of_172 rfl rfl rfl (by kernel_rfl) ?_
 have hb:(EE ⟨w.w,[]⟩).fns 182=true:=by kernel_rfl
 (repeat' first|refine vw ?_ ?_<;>intro hq|refine vz ?_|simp -implicitDefEqProofs only [go_sem,hms,msAt_map,Option.map_some,List.nil_append,List.cons_append,List.append_assoc,afo0,afo1,afo2,afo3,afo4,hb])
 refine ops1C.mono ?_
 rintro _ τ ⟨rfl,hτ⟩
 have hg:=(congrArg (fun s=>AStore.get s σ.next) hτ).trans (get_alloc_old (gsE (by simp only [set_next,alloc_next]; omega)))
 have hn:τ.next=σ.next+2:=by rw [hτ]; simp only [set_next,alloc_next]
 have hk:KeepS σ τ:=by rw [hτ]; exact ((((((KeepS.alloc σ _).set (Nat.le_refl _) _).set (Nat.le_refl _) _).set (Nat.le_refl _) _).set (Nat.le_refl _) _).set (Nat.le_refl _) _).trans (KeepS.alloc _ _)
 have hd:τ.get (σ.next+1)=some (.cells 1 [.func (.func 190) [] []]):=by rw [hτ,AStore.get_alloc,if_pos (by simp only [set_next,alloc_next])]
 have hx:∀ s:AStore,s.next=σ.next+1->(s.next:Nat)=σ.next+1:=fun _ h=>h
 simp only [set_next,alloc_next]
 clear hτ
 (repeat' first|refine vw ?_ ?_<;>intro hq|refine vz ?_|simp -implicitDefEqProofs only [go_sem,hms,msAt_map,Option.map_some,List.nil_append,List.cons_append,List.append_assoc,hg,afo5,hb])
 refine ops1C.mono ?_
 rintro _ τ2 ⟨rfl,hτ⟩
 have hg2:=(congrArg (fun s=>AStore.get s σ.next) hτ).trans (get_alloc_old (gsE (by omega)))
 have hn2:τ2.next=σ.next+3:=by rw [hτ]; simp only [set_next,alloc_next,hn]
 have hk2:KeepS σ τ2:=by rw [hτ]; exact (hk.set (Nat.le_refl _) _).trans (KeepS.alloc _ _)
 have hd2:τ2.get (σ.next+1)=some (.cells 1 [.func (.func 190) [] []]):=by rw [hτ]; exact get_alloc_old (by rw [AStore.get_set,if_neg (by omega)]; exact hd)
 have hr2:τ2.get (σ.next+2)=some (.cells 1 [.func (.func 191) [] []]):=by rw [hτ,AStore.get_alloc,if_pos (by simp only [set_next,hn])]
 have hlt2:σ.next < τ2.next:=by omega
 simp only [set_next,hn]
 clear hτ
 (repeat' first|refine vw ?_ ?_<;>intro hq|refine vz ?_|simp -implicitDefEqProofs only [go_sem,hms,msAt_map,Option.map_some,List.nil_append,List.cons_append,List.append_assoc,hg2,afo6,afo7,afo8,afo9,afo10,afo11,afo12,hlt2])
 refine ⟨?_,σ.next+1,σ.next+2,gsE (by simp only [set_next]; omega),?_,?_⟩
 ·exact (((((((hk2.set (Nat.le_refl _) _).set (Nat.le_refl _) _).set (Nat.le_refl _) _).set (Nat.le_refl _) _).set (Nat.le_refl _) _).set (Nat.le_refl _) _).set (Nat.le_refl _) _)
 ·simp only [AStore.get_set,set_next,if_neg (show ¬ (σ.next+1=σ.next/\σ.next < τ2.next) by omega)]; exact hd2
 ·simp only [AStore.get_set,set_next,if_neg (show ¬ (σ.next+2=σ.next/\σ.next < τ2.next) by omega)]; exact hr2
theorem opdC {w:WD} {f:FuncId} {σ:AStore} {b1:Nat} {a b r:Int} (hf:(EE w).fns f=true) (hg:σ.get b1=some (.cells 1 [.func (.func f) [] []])) (hC:b≠0->GivesV (EE ⟨w.w,[]⟩) f [(.sc (.int .i64 (a))),(.sc (.int .i64 (b)))] (.sc (.int .i64 (r)))):
  ACalls (EE w) 183 [(.sc (.int .i64 (a))),(.sc (.int .i64 (b))),.ptr b1 0 0] σ fun e σ'=>σ'=σ/\e=if b=0 then .pan (endA 100) else .ret (.sc (.int .i64 (r))):=by
 have hf':(EE ⟨w.w,[]⟩).fns f=true:=hf
 refine of_183 rfl rfl rfl (by kernel_rfl) ?_
 by_cases h:b=0
 ·(repeat' first|refine vw ?_ ?_<;>intro hq|refine vz ?_|simp -implicitDefEqProofs only [go_sem,dct h])
  rw [if_pos h]; rfl
 ·(repeat' first|refine vw ?_ ?_<;>intro hq|refine vz ?_|simp -implicitDefEqProofs only [go_sem,dcf h,hg,hf'])
  refine (hC h).use ?_
  (repeat' first|refine vw ?_ ?_<;>intro hq|refine vz ?_|simp -implicitDefEqProofs only [go_sem])
  rw [if_neg h]
theorem opAllC {w:WD} {σ:AStore} {bo b1 b2:Nat} (ho:OpsM σ bo b1 b2) {k a b:Int} (h1:3<=k) (h2:k<=15) (ha:-2147483648<=a/\a<=2147483648) (hb:-2147483648<=b/\b<=2147483648):
  ACalls (EE w) (opN k) ([(.sc (.int .i64 (a))),(.sc (.int .i64 (b)))]++opC b1 b2 k) σ fun e σ'=>σ'=σ/\e=if (k=8\/k=9)/\b=0 then .pan (endA 100) else .ret (.sc (.int .i64 (opV k a b))):=by
 have go:∀ {f:FuncId} {v:Int},GivesV (EE w) f [(.sc (.int .i64 (a))),(.sc (.int .i64 (b)))] (.sc (.int .i64 (v)))->ACalls (EE w) f [(.sc (.int .i64 (a))),(.sc (.int .i64 (b)))] σ fun e σ'=>σ'=σ/\e=.ret (.sc (.int .i64 (v))):=fun h=>h σ
 rcases op_cases h1 h2 with rfl|rfl|rfl|rfl|rfl|rfl|rfl|rfl|rfl|rfl|rfl|rfl|rfl
 ·exact go (op3C ha hb)
 ·exact go op4C
 ·exact go (op5C ha hb)
 ·exact go (op6C ha hb)
 ·exact go (op7C ha hb)
 ·refine (opdC (a:=a) (b:=b) (r:=a.tdiv b) (by kernel_rfl) ho.d fun h=>opd0C h ha hb).mono ?_
  rintro e σ' ⟨rfl,rfl⟩
  exact ⟨rfl,by by_cases h:b=0<;>simp [h,opV]⟩
 ·refine (opdC (a:=a) (b:=b) (r:=a.tmod b) (by kernel_rfl) ho.r fun h=>opd1C h ha hb).mono ?_
  rintro e σ' ⟨rfl,rfl⟩
  exact ⟨rfl,by by_cases h:b=0<;>simp [h,opV]⟩
 ·exact go op10C
 ·exact go op11C
 ·exact go op12C
 ·exact go op13C
 ·exact go op14C
 ·exact go op15C
def mcB (bg bf bo n:Nat):ABlk:=.cells 4 [.agg [.map bg,.map bf,.map bo,(.sc (.int .i64 (n)))]]
def ExpR (pm bg bf bo n m:Nat) (σ:AStore) (p:Int×Int) (e:AEnd) (σ':AStore):Prop:=
 (e=if p.2=0 then .ret (.sc (.int .i64 (p.1))) else .pan (endA p.2))/\KeepM pm σ σ'/\∃ n',n<=n'/\n'<=n+m/\σ'.get pm=some (mcB bg bf bo n')
def ExpC (w:WD) (g:List (ByteArray×Int)) (x:Ex):Prop:=∀ {v:AVal} {σ:AStore} {pm bg bf bo b1 b2 n:Nat},IsEx x v->okX x=true->Mc σ pm bg bf bo b1 b2 n g->n+nodesE x<=1000->
 ACalls (EE w) 174 [.ptr pm 0 0,v,.sc (.map none)] σ (ExpR pm bg bf bo n (nodesE x) σ (evX 100 7 (gval g) x))
theorem ar2 {k:Int} {l:List Ex} (h:arityB k l.length=true) (h1:5<=k) (h2:k<=17):∃ a b,l=[a,b]:=by
 unfold arityB at h
 rw [if_neg (by omega),if_neg (by omega),if_pos ⟨h1,h2⟩] at h
 have:=of_decide_eq_true h
 match l,this with
 | [a,b],_=>exact ⟨a,b,rfl⟩
theorem ar3 {l:List Ex} (h:arityB 18 l.length=true):∃ a b c,l=[a,b,c]:=by
 have:=of_decide_eq_true (show decide (l.length=3)=true from h)
 match l,this with
 | [a,b,c],_=>exact ⟨a,b,c,rfl⟩
theorem errL_bad:∀ {L:List (Int×Int)} {j:Nat} {p:Int×Int},errL (L.take j)=0->L[j]?=some p->p.2≠0->errL L=p.2
  | [],j,p,_,h,_=>by simp at h
  | q :: L, 0, p, _, h, hp => by
      simp at h; subst h
      unfold errL; rw [if_neg hp]
  | q :: L, j + 1, p, h0, h, hp => by
      simp only [List.take_succ_cons] at h0
      unfold errL at h0 ⊢
      split
      · rename_i hq; rw [if_pos hq] at h0; exact errL_bad h0 (by simpa using h) hp
      · rename_i hq; rw [if_neg hq] at h0; exact absurd h0 hq
theorem errL_ok:∀ {L:List (Int×Int)} {j:Nat} {p:Int×Int},errL (L.take j)=0->L[j]?=some p->p.2=0->errL (L.take (j+1))=0
  | [],j,p,_,h,_=>by simp at h
  | q :: L, 0, p, _, h, hp => by
      simp at h; subst h
      simp [errL,hp]
  | q :: L, j + 1, p, h0, h, hp => by
      simp only [List.take_succ_cons] at h0 ⊢
      unfold errL at h0 ⊢
      split
      · rename_i hq; rw [if_pos hq] at h0; exact errL_ok h0 (by simpa using h) hp
      · rename_i hq; rw [if_neg hq] at h0; exact absurd h0 hq
theorem ix0 {b:Nat}:aIndexA 4 1 (.ptr b 0 0) (.sc (.int .i64 (0)))=some (.ptr b 0 0):=rfl
theorem ix1 {b:Nat}:aIndexA 4 1 (.ptr b 0 0) (.sc (.int .i64 (1)))=some (.ptr b 0 1):=rfl
theorem ixc0 {b:Nat}:aIndexA 4 1 (.ptr b 0 0) (.sc (.int .i64 (((0:Nat):Int))))=some (.ptr b 0 0):=rfl
theorem ixc1 {b:Nat}:aIndexA 4 1 (.ptr b 0 0) (.sc (.int .i64 (((1:Nat):Int))))=some (.ptr b 0 1):=rfl
def arA (L:List (Int×Int)) (j:Nat):AVal:=.agg [(.sc (.int .i64 (if 0 < j then valL L 0 else 0))),(.sc (.int .i64 (if 1 < j then valL L 1 else 0))),(.sc (.int .i64 (0))),(.sc (.int .i64 (0)))]
theorem expStep {k i:Int} {nm:ByteArray} {xs:List Ex} {w:WD} {g:List (ByteArray×Int)} (hgv:∀ s,-2147483648<=gval g s/\gval g s<=2147483648)
  (rec:∀ y∈xs,∀ w:WD,ExpC w g y):ExpC w g (.mk k nm i xs):=by
 intro v σ pm bg bf bo b1 b2 n h hok hM hn
 simp only [IsEx] at h
 obtain ⟨S,els,rfl,hS,hx,hk,hi,hnm,hl⟩:=h
 simp only [okX,Bool.and_eq_true,Bool.not_eq_true',decide_eq_false_iff_not] at hok
 obtain ⟨⟨har,hk19,_⟩,hoks⟩:=hok
 simp only [nodesE] at hn
 have hlen:=hx.len
 have hSn:=fun σ:AStore=>hS.lenN hlen (σ:=σ)
 have kS:=hS.fit
 have cS:=hS.cells
 have iS:=hS.isCell
 have m0:=hM.m
 have hlt:=AStore.lt_of_get m0
 refine of_174 rfl rfl rfl (by kernel_rfl) ?_
 simp -implicitDefEqProofs only [go_sem,kS,cS,iS]
 have hk0:∀ X,KeepM pm σ (σ.alloc X):=fun X=>(KeepS.alloc σ X).m
 refine (stepC (get_alloc_old m0) (by omega)).mono ?_
 rintro _ τ ⟨⟨_,rfl⟩,m1,kp⟩
 have hX:τ.get σ.next=some (.cells 4 [.agg [(.sc (.int .i64 (k))),.sc (.string nm),(.sc (.int .i64 (i))),S]]):=kp.2 _ _ (by omega) (by rw [AStore.get_alloc,if_pos rfl])
 have kp0:=(hk0 _).trans kp
 have hM1:=hM.keep kp0 m1
 clear kp
 simp -implicitDefEqProofs only [go_sem,hX]
 have hev:evX 100 7 (gval g) (.mk k nm i xs)=cmb 100 7 k (gval g nm) i (evXs 100 7 (gval g) xs):=by simp only [evX]
 rw [hev]
 clear hev
 have hnd:nodesE (.mk k nm i xs)=1+nodesEs xs:=rfl
 by_cases k1:k=1
 ·have hc:cmb 100 7 k (gval g nm) i (evXs 100 7 (gval g) xs)=(i,0):=by unfold cmb; rw [if_pos k1]
  rw [hc]
  (repeat' first|refine vw ?_ ?_<;>intro hq|refine vz ?_|simp -implicitDefEqProofs only [go_sem,hX,dct k1])
  exact ⟨rfl,kp0,n+1,vom,vom,m1⟩
 by_cases k2:k=2
 ·have hc:cmb 100 7 k (gval g nm) i (evXs 100 7 (gval g) xs)=(gval g nm,0):=by unfold cmb; rw [if_neg k1,if_pos k2]
  rw [hc]
  obtain ⟨c,q1⟩:=hM1.g
  have hnil:∀ τ:AStore,aLookup .string (.int .i64 0) true (.sc (.map none)) (.sc (.string nm)) τ=some (.tuple [absV (.int .i64 0),(.sc (.bool (false)))]):=fun τ=>aLookup_nil rfl
  (repeat' first|refine vw ?_ ?_<;>intro hq|refine vz ?_|simp -implicitDefEqProofs only [go_sem,hX,dcf k1,dct k2,hnil])
  ((try (refine Z_seq ?_; (try simp -implicitDefEqProofs only [go_sem]))); refine Z_draw (by kernel_rfl) [0,1,2,3,4,5,6,7] [(7,127),(6,63),(5,16),(4,0),(3,7),(2,3),(1,1),(0,0)] (by kernel_rfl) (by kernel_rfl) ?_)
  simp -implicitDefEqProofs only [go_sem,hX,m1,q1,lk_strS,lk_g]
  exact ⟨rfl,kp0,n+1,vom,vom,m1⟩
 have h64:∀ y∈xs,okX y=true:=fun y hy=>okXs_mem hoks y hy
 by_cases k16:k=16
 ·obtain ⟨x0,x1,rfl⟩:=ar2 har (by omega) (by omega)
  obtain ⟨e0,he0,hx0⟩:=hx.at (j:=0) (x:=x0) rfl
  obtain ⟨e1,he1,hx1⟩:=hx.at (j:=1) (x:=x1) rfl
  obtain ⟨c1,c2,c3⟩:=hx0.isA.facts
  obtain ⟨d1,d2,d3⟩:=hx1.isA.facts
  have i0:=fun σ:AStore=>hS.idx he0 (σ:=σ) (k:=.i64)
  have i1:=fun σ:AStore=>hS.idx he1 (σ:=σ) (k:=.i64)
  simp only [Int.natCast_zero,Int.natCast_one,Int.cast_ofNat_Int] at i0 i1
  have hnd2:nodesE (.mk k nm i [x0,x1])=1+(nodesE x0+(nodesE x1+0)):=rfl
  simp only [nodesEs] at hn
  simp only [evXs]
  generalize hp0:evX 100 7 (gval g) x0=p0
  generalize hp1:evX 100 7 (gval g) x1=p1
  have hcm:cmb 100 7 k (gval g nm) i [p0,p1]=if p0.2≠0 then (0,p0.2) else if p0.1=0 then (0,0) else if p1.2≠0 then (0,p1.2) else (oneI (!decide (p1.1=0)),0):=by
   unfold cmb; rw [if_neg k1,if_neg k2,if_pos k16]; rfl
  rw [hcm,hnd2]
  clear hcm
  (repeat' first|refine vw ?_ ?_<;>intro hq|refine vz ?_|simp -implicitDefEqProofs only [go_sem,hX,dcf k1,dcf k2,dct k16,i0,c1,c2,c3])
  refine (rec x0 (by simp) _ hx0 (h64 x0 (by simp)) hM1 (by omega)).mono ?_
  rintro _ τ1 ⟨rfl,kp1,n1,l1,u1,m2⟩
  have hX1:=kp1.2 _ _ (by omega) hX
  have kq1:=kp0.trans kp1
  rw [hp0]
  by_cases h0:p0.2=0
  ·rw [if_pos h0,if_neg (not_not_intro h0)]
   by_cases hz:p0.1=0
   ·rw [if_pos hz]
    (repeat' first|refine vw ?_ ?_<;>intro hq|refine vz ?_|simp -implicitDefEqProofs only [go_sem,dct hz])
    refine (oneC _).use ?_
    (repeat' first|refine vw ?_ ?_<;>intro hq|refine vz ?_|simp -implicitDefEqProofs only [go_sem])
    exact ⟨rfl,kq1,n1,vom,vom,m2⟩
   ·rw [if_neg hz]
    (repeat' first|refine vw ?_ ?_<;>intro hq|refine vz ?_|simp -implicitDefEqProofs only [go_sem,dcf hz,hX1,i1,d1,d2,d3])
    refine (rec x1 (by simp) _ hx1 (h64 x1 (by simp)) (hM1.keep kp1 m2) (by omega)).mono ?_
    rintro _ τ2 ⟨rfl,kp2,n2,l2,u2,m3⟩
    have kq2:=kq1.trans kp2
    rw [hp1]
    by_cases h1:p1.2=0
    ·rw [if_pos h1,if_neg (not_not_intro h1)]
     simp -implicitDefEqProofs only [go_sem]
     refine (oneC _).use ?_
     (repeat' first|refine vw ?_ ?_<;>intro hq|refine vz ?_|simp -implicitDefEqProofs only [go_sem])
     exact ⟨rfl,kq2,n2,vom,vom,m3⟩
    ·rw [if_neg h1,if_pos h1]
     (repeat' first|refine vw ?_ ?_<;>intro hq|refine vz ?_|simp -implicitDefEqProofs only [go_sem])
     exact ⟨by rw [if_neg h1],kq2,n2,by omega,by omega,m3⟩
  ·rw [if_neg h0,if_pos h0]
   (repeat' first|refine vw ?_ ?_<;>intro hq|refine vz ?_|simp -implicitDefEqProofs only [go_sem])
   exact ⟨by rw [if_neg h0],kq1,n1,by omega,by omega,m2⟩
 by_cases k17:k=17
 ·obtain ⟨x0,x1,rfl⟩:=ar2 har (by omega) (by omega)
  obtain ⟨e0,he0,hx0⟩:=hx.at (j:=0) (x:=x0) rfl
  obtain ⟨e1,he1,hx1⟩:=hx.at (j:=1) (x:=x1) rfl
  obtain ⟨c1,c2,c3⟩:=hx0.isA.facts
  obtain ⟨d1,d2,d3⟩:=hx1.isA.facts
  have i0:=fun σ:AStore=>hS.idx he0 (σ:=σ) (k:=.i64)
  have i1:=fun σ:AStore=>hS.idx he1 (σ:=σ) (k:=.i64)
  simp only [Int.natCast_zero,Int.natCast_one,Int.cast_ofNat_Int] at i0 i1
  have hnd2:nodesE (.mk k nm i [x0,x1])=1+(nodesE x0+(nodesE x1+0)):=rfl
  simp only [nodesEs] at hn
  simp only [evXs]
  generalize hp0:evX 100 7 (gval g) x0=p0
  generalize hp1:evX 100 7 (gval g) x1=p1
  have hcm:cmb 100 7 k (gval g nm) i [p0,p1]=if p0.2≠0 then (0,p0.2) else if p0.1≠0 then (1,0) else if p1.2≠0 then (0,p1.2) else (oneI (!decide (p1.1=0)),0):=by
   unfold cmb; rw [if_neg k1,if_neg k2,if_neg k16,if_pos k17]; rfl
  rw [hcm,hnd2]
  clear hcm
  (repeat' first|refine vw ?_ ?_<;>intro hq|refine vz ?_|simp -implicitDefEqProofs only [go_sem,hX,dcf k1,dcf k2,dcf k16,dct k17,i0,c1,c2,c3])
  refine (rec x0 (by simp) _ hx0 (h64 x0 (by simp)) hM1 (by omega)).mono ?_
  rintro _ τ1 ⟨rfl,kp1,n1,l1,u1,m2⟩
  have hX1:=kp1.2 _ _ (by omega) hX
  have kq1:=kp0.trans kp1
  rw [hp0]
  by_cases h0:p0.2=0
  ·rw [if_pos h0,if_neg (not_not_intro h0)]
   by_cases hz:p0.1=0
   ·rw [if_neg (not_not_intro hz)]
    (repeat' first|refine vw ?_ ?_<;>intro hq|refine vz ?_|simp -implicitDefEqProofs only [go_sem,dct hz,hX1,i1,d1,d2,d3])
    refine (rec x1 (by simp) _ hx1 (h64 x1 (by simp)) (hM1.keep kp1 m2) (by omega)).mono ?_
    rintro _ τ2 ⟨rfl,kp2,n2,l2,u2,m3⟩
    have kq2:=kq1.trans kp2
    rw [hp1]
    by_cases h1:p1.2=0
    ·rw [if_pos h1,if_neg (not_not_intro h1)]
     simp -implicitDefEqProofs only [go_sem]
     refine (oneC _).use ?_
     (repeat' first|refine vw ?_ ?_<;>intro hq|refine vz ?_|simp -implicitDefEqProofs only [go_sem])
     exact ⟨rfl,kq2,n2,vom,vom,m3⟩
    ·rw [if_neg h1,if_pos h1]
     (repeat' first|refine vw ?_ ?_<;>intro hq|refine vz ?_|simp -implicitDefEqProofs only [go_sem])
     exact ⟨by rw [if_neg h1],kq2,n2,by omega,by omega,m3⟩
   ·rw [if_pos hz]
    (repeat' first|refine vw ?_ ?_<;>intro hq|refine vz ?_|simp -implicitDefEqProofs only [go_sem,dcf hz])
    refine (oneC _).use ?_
    (repeat' first|refine vw ?_ ?_<;>intro hq|refine vz ?_|simp -implicitDefEqProofs only [go_sem])
    exact ⟨rfl,kq1,n1,vom,vom,m2⟩
  ·rw [if_neg h0,if_pos h0]
   (repeat' first|refine vw ?_ ?_<;>intro hq|refine vz ?_|simp -implicitDefEqProofs only [go_sem])
   exact ⟨by rw [if_neg h0],kq1,n1,by omega,by omega,m2⟩
 by_cases k18:k=18
 ·subst k18
  obtain ⟨x0,x1,x2,rfl⟩:=ar3 har
  obtain ⟨e0,he0,hx0⟩:=hx.at (j:=0) (x:=x0) rfl
  obtain ⟨e1,he1,hx1⟩:=hx.at (j:=1) (x:=x1) rfl
  obtain ⟨e2,he2,hx2⟩:=hx.at (j:=2) (x:=x2) rfl
  obtain ⟨c1,c2,c3⟩:=hx0.isA.facts
  obtain ⟨d1,d2,d3⟩:=hx1.isA.facts
  obtain ⟨f1,f2,f3⟩:=hx2.isA.facts
  have i0:=fun σ:AStore=>hS.idx he0 (σ:=σ) (k:=.i64)
  have i1:=fun σ:AStore=>hS.idx he1 (σ:=σ) (k:=.i64)
  have i2:=fun σ:AStore=>hS.idx he2 (σ:=σ) (k:=.i64)
  simp only [Int.natCast_zero,Int.natCast_one,Int.cast_ofNat_Int] at i0 i1 i2
  have hnd2:nodesE (.mk 18 nm i [x0,x1,x2])=1+(nodesE x0+(nodesE x1+(nodesE x2+0))):=rfl
  simp only [nodesEs] at hn
  simp only [evXs]
  generalize hp0:evX 100 7 (gval g) x0=p0
  generalize hp1:evX 100 7 (gval g) x1=p1
  generalize hp2:evX 100 7 (gval g) x2=p2
  have hcm:cmb 100 7 18 (gval g nm) i [p0,p1,p2]=if p0.2≠0 then (0,p0.2) else if p0.1≠0 then (p1.1,p1.2) else (p2.1,p2.2):=rfl
  rw [hcm,hnd2]
  clear hcm
  (repeat' first|refine vw ?_ ?_<;>intro hq|refine vz ?_|simp -implicitDefEqProofs only [go_sem,hX,i0,c1,c2,c3,show decide ((18:Int)=1)=false from rfl,show decide ((18:Int)=2)=false from rfl,show decide ((18:Int)=16)=false from rfl,show decide ((18:Int)=17)=false from rfl,show decide ((18:Int)=18)=true from rfl])
  refine (rec x0 (by simp) _ hx0 (h64 x0 (by simp)) hM1 (by omega)).mono ?_
  rintro _ τ1 ⟨rfl,kp1,n1,l1,u1,m2⟩
  have hX1:=kp1.2 _ _ (by omega) hX
  have kq1:=kp0.trans kp1
  rw [hp0]
  by_cases h0:p0.2=0
  ·rw [if_pos h0,if_neg (not_not_intro h0)]
   by_cases hz:p0.1=0
   ·rw [if_neg (not_not_intro hz)]
    (repeat' first|refine vw ?_ ?_<;>intro hq|refine vz ?_|simp -implicitDefEqProofs only [go_sem,dct hz,hX1,i2,f1,f2,f3])
    refine (rec x2 (by simp) _ hx2 (h64 x2 (by simp)) (hM1.keep kp1 m2) (by omega)).mono ?_
    rintro _ τ2 ⟨rfl,kp2,n2,l2,u2,m3⟩
    have kq2:=kq1.trans kp2
    rw [hp2]
    by_cases h1:p2.2=0
    ·rw [if_pos h1]
     (repeat' first|refine vw ?_ ?_<;>intro hq|refine vz ?_|simp -implicitDefEqProofs only [go_sem])
     exact ⟨by rw [if_pos h1],kq2,n2,by omega,by omega,m3⟩
    ·rw [if_neg h1]
     (repeat' first|refine vw ?_ ?_<;>intro hq|refine vz ?_|simp -implicitDefEqProofs only [go_sem])
     exact ⟨by rw [if_neg h1],kq2,n2,by omega,by omega,m3⟩
   ·rw [if_pos hz]
    (repeat' first|refine vw ?_ ?_<;>intro hq|refine vz ?_|simp -implicitDefEqProofs only [go_sem,dcf hz,hX1,i1,d1,d2,d3])
    refine (rec x1 (by simp) _ hx1 (h64 x1 (by simp)) (hM1.keep kp1 m2) (by omega)).mono ?_
    rintro _ τ2 ⟨rfl,kp2,n2,l2,u2,m3⟩
    have kq2:=kq1.trans kp2
    rw [hp1]
    by_cases h1:p1.2=0
    ·rw [if_pos h1]
     (repeat' first|refine vw ?_ ?_<;>intro hq|refine vz ?_|simp -implicitDefEqProofs only [go_sem])
     exact ⟨by rw [if_pos h1],kq2,n2,by omega,by omega,m3⟩
    ·rw [if_neg h1]
     (repeat' first|refine vw ?_ ?_<;>intro hq|refine vz ?_|simp -implicitDefEqProofs only [go_sem])
     exact ⟨by rw [if_neg h1],kq2,n2,by omega,by omega,m3⟩
  ·rw [if_neg h0,if_pos h0]
   (repeat' first|refine vw ?_ ?_<;>intro hq|refine vz ?_|simp -implicitDefEqProofs only [go_sem])
   exact ⟨by rw [if_neg h0],kq1,n1,by omega,by omega,m2⟩
 have hk3:3<=k/\k<=15/\xs.length<=2:=by
  unfold arityB at har
  rw [if_neg (by omega)] at har
  split at har
  ·have:=of_decide_eq_true har; omega
  ·split at har
   ·have:=of_decide_eq_true har; omega
   ·first
     | exact absurd (of_decide_eq_true har) hk19
     | (rw [if_neg k18] at har; exact absurd (of_decide_eq_true har) hk19)
 obtain ⟨k3,k15,hx2⟩:=hk3
 have hcm:cmb 100 7 k (gval g nm) i (evXs 100 7 (gval g) xs)=if errL (evXs 100 7 (gval g) xs)≠0 then (0,errL (evXs 100 7 (gval g) xs)) else finV 100 7 k (valL (evXs 100 7 (gval g) xs) 0) (valL (evXs 100 7 (gval g) xs) 1):=by
  unfold cmb; rw [if_neg k1,if_neg k2,if_neg k16,if_neg k17,if_neg k18]
 rw [hcm,hnd]
 clear hcm
 have hnx:=AStore.lt_of_get hX
 have hne:¬ (σ.next=τ.next):=by omega
 have hLm:=evXs_map 100 7 (gval g) xs
 have hLi:=evXs_in (eM:=100) (eR:=7) hgv hoks
 generalize evXs 100 7 (gval g) xs=L at hLm hLi ⊢
 (repeat' first|refine vw ?_ ?_<;>intro hq|refine vz ?_|simp -implicitDefEqProofs only [go_sem,hX,dcf k1,dcf k2,dcf k16,dcf k17,dcf k18,hSn,hne])
 refine vlp (ι:=Nat) (fun j=>[(0,.ptr pm 0 0),(2,.sc (.map none)),(4,.ptr σ.next 0 0),(9,.ptr τ.next 0 0),(112,S),(113,(.sc (.int .i64 (xs.length)))),(114,(.sc (.int .i64 (j))))]) (fun j ρ=>j<=xs.length/\KeepM pm σ ρ/\σ.next < τ.next/\τ.next < ρ.next/\(∃ n',n+1<=n'/\n'<=n+1+nodesEs (xs.take j)/\ρ.get pm=some (mcB bg bf bo n'))/\ρ.get σ.next=some (.cells 4 [.agg [(.sc (.int .i64 (k))),.sc (.string nm),(.sc (.int .i64 (i))),S]])/\ρ.get τ.next=some (.cells 4 [arA L j])/\errL (L.take j)=0) (fun j=>xs.length - j) (fun _=>rfl) 0 ?_ ?_ ?_
 ·exact vsu
 ·exact ⟨Nat.zero_le _,kp0.trans (KeepS.alloc τ _).m,hnx,by rw [alloc_next]; omega,⟨n+1,by omega,by omega,get_alloc_old m1⟩,get_alloc_old hX,by rw [AStore.get_alloc,if_pos rfl]; rfl,rfl⟩
 rintro j ρ ⟨hj,kr,_,hnr,⟨nn,l1,u1,m2⟩,hX2,ha2,he2⟩
 simp -implicitDefEqProofs only [go_sem]
 (refine vif ?_ ?_<;>intro hlt)
 ·obtain ⟨x,hx1⟩:∃ x,xs[j]?=some x:=⟨xs[j]'(by omega),by simp⟩
  obtain ⟨e,he,hxe⟩:=hx.at hx1
  obtain ⟨c1,c2,c3⟩:=hxe.isA.facts
  have cc:=hxe.cellsOk
  have hsp:=fun a b c d=>hxe.splice (a:=a) (b:=b) (c:=c) (d:=d)
  have hw:=wrapS (i:=j) (by omega)
  have hnt:=nodesEs_take hx1
  have hnl:=nodesEs_le (l:=xs) (i:=j+1)
  have hLj:L[j]?=some (evX 100 7 (gval g) x):=by rw [hLm,List.getElem?_map,hx1]; rfl
  (repeat' first|refine vw ?_ ?_<;>intro hq|refine vz ?_|simp -implicitDefEqProofs only [go_sem,hS.idx he,c1,c2,c3,cc,hsp])
  have kk:∀ a b,KeepS ρ ((ρ.alloc a).set ρ.next b):=fun a b=>(KeepS.alloc ρ a).set (Nat.le_refl _) b
  refine (rec x (List.mem_of_getElem? hx1) _ hxe (h64 x (List.mem_of_getElem? hx1)) ((hM.keep kr m2).keepS (kk _ _)) (by omega)).mono ?_
  rintro _ ρ2 ⟨rfl,kq,n2,l2,u2,m3⟩
  have ks:=(kr.trans (kk _ _).m).trans kq
  have hX3:=kq.2 _ _ (by omega) ((kk _ _).2 _ _ hX2)
  have ha3:=kq.2 _ _ (show τ.next≠pm by omega) ((kk _ _).2 _ _ ha2)
  have hn3:τ.next < ρ2.next:=AStore.lt_of_get ha3
  generalize evX 100 7 (gval g) x=p at hLj ⊢
  by_cases hp:p.2=0
  ·rw [if_pos hp]
   have he3:=errL_ok he2 hLj hp
   have hj2:j=0\/j=1:=by omega
   have hv:valL L j=p.1:=by unfold valL; rw [hLj]; rfl
   have fin:∀ ρ3:AStore,ρ3=ρ2.set τ.next (.cells 4 [arA L (j+1)])->(j+1<=xs.length/\KeepM pm σ ρ3/\σ.next < τ.next/\τ.next < ρ3.next/\(∃ n',n+1<=n'/\n'<=n+1+nodesEs (xs.take (j+1))/\ρ3.get pm=some (mcB bg bf bo n'))/\ρ3.get σ.next=some (.cells 4 [.agg [(.sc (.int .i64 (k))),.sc (.string nm),(.sc (.int .i64 (i))),S]])/\ρ3.get τ.next=some (.cells 4 [arA L (j+1)])/\errL (L.take (j+1))=0):=by
    rintro ρ3 rfl
    refine ⟨by omega,⟨by rw [set_next]; exact ks.1,fun b y hb hy=>?_⟩,hnx,by rw [set_next]; exact hn3,⟨n2,by omega,by omega,?_⟩,?_,gsE hn3,he3⟩
    ·have:=AStore.lt_of_get hy
     rw [AStore.get_set,if_neg (by omega)]; exact ks.2 b y hb hy
    ·rw [AStore.get_set,if_neg (by omega)]; exact m3
    ·rw [AStore.get_set,if_neg (by omega)]; exact hX3
   rcases hj2 with rfl|rfl
   ·have ea:arA L (0+1)=.agg [(.sc (.int .i64 (p.1))),(.sc (.int .i64 (0))),(.sc (.int .i64 (0))),(.sc (.int .i64 (0)))]:=by unfold arA; rw [if_pos (by omega),if_neg (by omega),hv]
    have ea0:arA L 0=.agg [(.sc (.int .i64 (0))),(.sc (.int .i64 (0))),(.sc (.int .i64 (0))),(.sc (.int .i64 (0)))]:=rfl
    rw [ea0] at ha3
    (repeat' first|refine vw ?_ ?_<;>intro hq|refine vz ?_|simp -implicitDefEqProofs only [go_sem,ha3,hw,ixc0,ixc1])
    exact ⟨1,vom,fin _ (by rw [ea]),vsu⟩
   ·have ea:arA L (1+1)=.agg [(.sc (.int .i64 (valL L 0))),(.sc (.int .i64 (p.1))),(.sc (.int .i64 (0))),(.sc (.int .i64 (0)))]:=by unfold arA; rw [if_pos (by omega),if_pos (by omega),hv]
    have ea0:arA L 1=.agg [(.sc (.int .i64 (valL L 0))),(.sc (.int .i64 (0))),(.sc (.int .i64 (0))),(.sc (.int .i64 (0)))]:=by unfold arA; rw [if_pos (by omega),if_neg (by omega)]
    rw [ea0] at ha3
    (repeat' first|refine vw ?_ ?_<;>intro hq|refine vz ?_|simp -implicitDefEqProofs only [go_sem,ha3,hw,ixc0,ixc1])
    exact ⟨2,vom,fin _ (by rw [ea]),vsu⟩
  ·rw [if_neg hp]
   have hE:=errL_bad he2 hLj hp
   rw [hE,if_pos hp]
   (repeat' first|refine vw ?_ ?_<;>intro hq|refine vz ?_|simp -implicitDefEqProofs only [go_sem])
   exact ⟨by rw [if_neg hp],ks,n2,by omega,by omega,m3⟩
 ·obtain rfl:j=xs.length:=by omega
  have hLl:L.length=xs.length:=by rw [hLm,List.length_map]
  rw [<-hLl,List.take_length] at he2
  rw [List.take_length] at u1
  rw [if_neg (not_not_intro he2)]
  have a0:arA L xs.length=.agg [(.sc (.int .i64 (valL L 0))),(.sc (.int .i64 (valL L 1))),(.sc (.int .i64 (0))),(.sc (.int .i64 (0)))]:=by
   unfold arA
   have h1:∀ q:Nat,(if q < xs.length then valL L q else 0)=valL L q:=by
    intro q
    split
    ·rfl
    ·unfold valL; rw [List.getElem?_eq_none (by omega)]; rfl
   rw [h1,h1]
  rw [a0] at ha2
  have hvL:∀ q,-2147483648<=valL L q/\valL L q<=2147483648:=by
   intro q
   unfold valL
   cases hq:L[q]? with
   | none=>exact ⟨by decide,by decide⟩
   | some p=>exact hLi p (List.mem_of_getElem? hq)
  have hMr:=hM.keep kr m2
  have q2:=hMr.o.m
  have hlo:∀ ρ:AStore,aLookup (.int .i64) .nilFunc false (.map bo) (.sc (.int .i64 (k))) ρ=lkAt (.int .i64) .nilFunc false (.int .i64 k) (ρ.get bo):=fun ρ=>aLookup_map rfl
  have hk19':¬ k=19:=hk19
  have hfn:=opN_fns (w:=⟨w.w,[]⟩) k3 k15
  have m2':ρ.get pm=some (.cells 4 [.agg [.map bg,.map bf,.map bo,(.sc (.int .i64 (nn)))]]):=m2
  (repeat' first|refine vw ?_ ?_<;>intro hq|refine vz ?_|simp -implicitDefEqProofs only [go_sem,hX2,dcf hk19'])
  ((try (refine Z_seq ?_; (try simp -implicitDefEqProofs only [go_sem]))); refine Z_draw (by kernel_rfl) [0,1,2,3,4,5,6,7,8,9,10,11,12] [(12,4095),(11,2047),(10,512),(9,0),(8,128),(7,0),(6,63),(5,16),(4,0),(3,7),(2,3),(1,1),(0,0)] (by kernel_rfl) (by kernel_rfl) ?_)
  simp -implicitDefEqProofs only [go_sem,hX2,m2',q2,hlo,opsL_at k3 k15,ha2,ix0,ix1,hfn]
  refine (opAllC (w:=⟨w.w,[]⟩) hMr.o k3 k15 (hvL 0) (hvL 1)).mono ?_
  rintro _ _ ⟨rfl,rfl⟩
  by_cases hd:(k=8\/k=9)/\valL L 1=0
  ·have hf:finV 100 7 k (valL L 0) (valL L 1)=(0,100):=by unfold finV; rw [if_pos hd]
   rw [if_pos hd,hf]
   (repeat' first|refine vw ?_ ?_<;>intro hq|refine vz ?_|simp -implicitDefEqProofs only [go_sem])
   exact ⟨rfl,kr,nn,vom,vom,m2⟩
  ·rw [if_neg hd]
   refine .inl ⟨rfl,rfl,?_⟩
   by_cases hr:opV k (valL L 0) (valL L 1) > 2147483648\/opV k (valL L 0) (valL L 1) < -2147483648
   ·have hf:finV 100 7 k (valL L 0) (valL L 1)=(0,7):=by unfold finV; rw [if_neg hd,if_pos hr]
    rw [hf]
    generalize opV k (valL L 0) (valL L 1)=z at hr ⊢
    by_cases hz:z > 2147483648
    ·(repeat' first|refine vw ?_ ?_<;>intro hq|refine vz ?_|simp -implicitDefEqProofs only [go_sem,dct hz])
     exact ⟨rfl,kr,nn,vom,vom,m2⟩
    ·have hz2:z < -2147483648:=by omega
     (repeat' first|refine vw ?_ ?_<;>intro hq|refine vz ?_|simp -implicitDefEqProofs only [go_sem,dcf hz,dct hz2])
     exact ⟨rfl,kr,nn,vom,vom,m2⟩
   ·have hf:finV 100 7 k (valL L 0) (valL L 1)=(opV k (valL L 0) (valL L 1),0):=by unfold finV; rw [if_neg hd,if_neg hr]
    rw [hf]
    generalize opV k (valL L 0) (valL L 1)=z at hr ⊢
    have hz:¬ z > 2147483648:=by omega
    have hz2:¬ z < -2147483648:=by omega
    (repeat' first|refine vw ?_ ?_<;>intro hq|refine vz ?_|simp -implicitDefEqProofs only [go_sem,dcf hz,dcf hz2])
    exact ⟨rfl,kr,nn,vom,vom,m2⟩
theorem expC {w:WD} {g:List (ByteArray×Int)} (hgv:∀ s,-2147483648<=gval g s/\gval g s<=2147483648):∀ x:Ex,ExpC w g x
 | .mk _ _ _ xs=>expStep hgv fun y hy w=>expC (w:=w) hgv y
termination_by x=>sizeOf x
decreasing_by have:=List.sizeOf_lt_of_mem hy; simp only [Ex.mk.sizeOf_spec]; omega
theorem Z_ofV {E:Env} {n:Nat} {c:Code} {Q:SPred} {e:Ev} {σ:AStore} (h:V E n c Q e σ):Z E n c Q e σ:=fun hc he=>V_sound c h hc he
def vGoM (k:Md->Ev->AStore->Prop) (dst:Option Nat) (md:Md) (e:Ev) (σ:AStore):ARes->Prop
 | .recov=>(match md with
  | .pan v=>k .cau (putE e dst v) σ
  | md=>k md (putE e dst (.sc .nilIface)) σ)
 | .val v σ'=>k md (putE e dst v) σ'
 | .skip σ'=>k md (putE e dst undefA) σ'
 | _=>False
section
variable {E:Env} {K:Md->Ev->AStore->Prop} {md:Md} {e:Ev} {σ:AStore} {k:Md->Ev->AStore->Prop}
theorem vOpsM_nil:vOpsM E K [] md e σ=K md e σ:=rfl
theorem vOpsM_cons {dst:Option Nat} {op:Op} {t:TypeId} {p:String} {a:Array Edge} {r:List Oper}:
  vOpsM E K (⟨dst,op,t,p,a,none⟩::r) md e σ=vGoM (vOpsM E K r) dst md e σ (aOp E false op (evE E.G e) σ):=by
 simp only [vOpsM,true_and]
 cases aOp E false op (evE E.G e) σ<;>simp only [vGoM]
 cases md<;>rfl
theorem vGoM_val {dst:Nat} {v:AVal} {σ':AStore}:vGoM k (some dst) md e σ (.val v σ')=k md ((dst,v)::e) σ':=rfl
theorem vGoM_rn {dst:Nat}:vGoM k (some dst) (Md.start none) e σ .recov=k .norm ((dst,.sc .nilIface)::e) σ:=rfl
theorem vGoM_rp {dst:Nat} {v:AVal}:vGoM k (some dst) (Md.start (some v)) e σ .recov=k .cau ((dst,v)::e) σ:=rfl
theorem bi_recover {ts:List TypeId}:opBi E .recover ts σ (some [])=.recov:=rfl
end
attribute [go_sem ↓] vOpsM_nil vOpsM_cons vGoM_rn vGoM_rp
attribute [go_sem] vGoM_val bi_recover opBin_neI opBin_neN
theorem run1N {w:WD} {σ:AStore} {a b c d e:Nat}:ACallsM (EE w) 173 [.ptr a 0 0,.ptr b 0 0,.ptr c 0 0,.ptr d 0 0,.ptr e 0 0] none σ fun en m' σ'=>(∃ v,en=.ret v)/\m'=none/\σ'=σ:=by
 refine ACallsM.of_V (E:=EE w) (E':=EE ⟨w.w,[]⟩) (n:=25) rfl rfl Tryz.f173 _ _ _ _ [] Tryz.func173 rfl rfl rfl rfl (by kernel_rfl) (by kernel_rfl) (by kernel_rfl) ?_
 (repeat' first|refine vw ?_ ?_<;>intro hq|refine vz ?_|simp -implicitDefEqProofs only [go_sem])
 exact ⟨⟨_,rfl⟩,rfl⟩
theorem run1P {w:WD} {σ:AStore} {pa p1 p2 p3 p4 pm bg bf bo n:Nat} {c:Int} (ha:σ.get pa=some (.cells 1 [.ptr pm 0 0])) (hm:σ.get pm=some (.cells 4 [.agg [.map bg,.map bf,.map bo,(.sc (.int .i64 (n)))]]))
  (h1:∃ x,σ.get p1=some (.cells 1 [(.sc (.int .i64 (x)))])) (h2:∃ x,σ.get p2=some (.cells 1 [(.sc (.int .i64 (x)))])) (h3:∃ x,σ.get p3=some (.cells 1 [(.sc (.int .i64 (x)))])) (h4:∃ x,σ.get p4=some (.cells 1 [(.sc (.bool (x)))])) (h12:p1≠p2) (h13:p1≠p3) (h14:p1≠p4) (h23:p2≠p3) (h24:p2≠p4) (h34:p3≠p4):
  ACallsM (EE w) 173 [.ptr pa 0 0,.ptr p1 0 0,.ptr p2 0 0,.ptr p3 0 0,.ptr p4 0 0] (some (endA c)) σ fun en m' σ'=>(∃ v,en=.ret v)/\m'=none/\σ'.get p1=some (.cells 1 [(.sc (.int .i64 (0)))])/\(∃ n,σ'.get p2=some (.cells 1 [(.sc (.int .i64 (n)))]))/\σ'.get p3=some (.cells 1 [(.sc (.int .i64 (c)))])/\σ'.get p4=some (.cells 1 [(.sc (.bool (false)))]):=by
 refine ACallsM.of_V (E:=EE w) (E':=EE ⟨w.w,[]⟩) (n:=25) rfl rfl Tryz.f173 _ _ _ _ [] Tryz.func173 rfl rfl rfl rfl (by kernel_rfl) (by kernel_rfl) (by kernel_rfl) ?_
 unfold endA
 obtain ⟨x1,h1⟩:=h1
 obtain ⟨x2,h2⟩:=h2
 obtain ⟨x3,h3⟩:=h3
 obtain ⟨x4,h4⟩:=h4
 (repeat' first|refine vw ?_ ?_<;>intro hq|refine vz ?_|simp -implicitDefEqProofs only [go_sem])
 have kk:∀ a b,KeepS σ ((σ.alloc a).set σ.next b):=fun a b=>(KeepS.alloc σ a).set (Nat.le_refl _) b
 have hX:=gsE (σ:=σ.alloc (.cells 1 [.agg [(.sc (.int .i64 (0)))]])) (b:=σ.next) (x:=.cells 1 [.agg [(.sc (.int .i64 (c)))]]) (by rw [alloc_next]; omega)
 have ka:=(kk (.cells 1 [.agg [(.sc (.int .i64 (0)))]]) (.cells 1 [.agg [(.sc (.int .i64 (c)))]])).2 _ _ ha
 have km:=(kk (.cells 1 [.agg [(.sc (.int .i64 (0)))]]) (.cells 1 [.agg [(.sc (.int .i64 (c)))]])).2 _ _ hm
 have k1:=(kk (.cells 1 [.agg [(.sc (.int .i64 (0)))]]) (.cells 1 [.agg [(.sc (.int .i64 (c)))]])).2 _ _ h1
 have k2:=(kk (.cells 1 [.agg [(.sc (.int .i64 (0)))]]) (.cells 1 [.agg [(.sc (.int .i64 (c)))]])).2 _ _ h2
 have k3:=(kk (.cells 1 [.agg [(.sc (.int .i64 (0)))]]) (.cells 1 [.agg [(.sc (.int .i64 (c)))]])).2 _ _ h3
 have k4:=(kk (.cells 1 [.agg [(.sc (.int .i64 (0)))]]) (.cells 1 [.agg [(.sc (.int .i64 (c)))]])).2 _ _ h4
 generalize (σ.alloc (.cells 1 [.agg [(.sc (.int .i64 (0)))]])).set σ.next (.cells 1 [.agg [(.sc (.int .i64 (c)))]])=τ at hX ka km k1 k2 k3 k4 ⊢
 have b1:=AStore.lt_of_get k1
 have b2:=AStore.lt_of_get k2
 have b3:=AStore.lt_of_get k3
 have b4:=AStore.lt_of_get k4
 have n1:¬ (σ.next=p1):=by have:=AStore.lt_of_get h1; omega
 have n2:¬ (σ.next=p2):=by have:=AStore.lt_of_get h2; omega
 ((try (refine Z_seq ?_; (try simp -implicitDefEqProofs only [go_sem]))); refine Z_draw (by kernel_rfl) [0,1,2,3,4,5,6,7,8,9] [(9,511),(8,255),(7,79),(6,15),(5,16),(4,0),(3,7),(2,3),(1,1),(0,0)] (by kernel_rfl) (by kernel_rfl) ?_)
 simp -implicitDefEqProofs only [go_sem,hX,ka,km,k1,k2,k3,k4,b1,b2,b3,b4,h12,h13,h14,h23,h24,h34,Ne.symm h12,Ne.symm h13,Ne.symm h14,Ne.symm h23,Ne.symm h24,Ne.symm h34,n1,n2]
 exact ⟨⟨_,rfl⟩,rfl,_,rfl⟩
theorem gval_in {gl:List (ByteArray×Int)} (h:∀ p∈gl,-2147483648<=p.2/\p.2<=2147483648):∀ s,-2147483648<=gval gl s/\gval gl s<=2147483648:=by
 induction gl with
 | nil=>intro s; exact ⟨by show (-2147483648:Int)<=0; decide,by show (0:Int)<=2147483648; decide⟩
 | cons p gl ih=>
  intro s
  simp only [gval]
  split
  ·exact h p (by simp)
  ·exact ih (fun q hq=>h q (List.mem_cons_of_mem _ hq)) s
theorem getM_app {k:ByteArray} {v:Int}:∀ {l:List (ByteArray×Int)},k ∉ l.map (·.1)->getM (gM l) k=none
  | [],_=>rfl
  | p :: l, h => by
      simp only [List.map_cons,List.mem_cons,not_or] at h
      have:=getM_app (v:=v) h.2
      simp only [gM] at this
      simp only [gM,List.map_cons,getM,if_neg (Ne.symm h.1),this]
      rfl
def runR (p:Int×Int) (n:Int):AVal:=.tuple [(.sc (.int .i64 (if p.2=0 then p.1 else 0))),(.sc (.int .i64 (n))),(.sc (.int .i64 (p.2))),(.sc (.bool (false)))]
theorem runC {w:WD} {x:Ex} {X N V L:AVal} {gl:List (ByteArray×Int)} (hX:IsEx x X) (hok:okX x=true) (hnd:nodesE x<=1000) (hN:IsD 1 N (gl.map fun p=>sA p.1)) (hV:IsD 1 V (gl.map fun p=>(.sc (.int .i64 (p.2)))))
  (hnod:(gl.map (·.1)).Nodup) (hb:∀ p∈gl,-2147483648<=p.2/\p.2<=2147483648) (hl:gl.length<=1000000) (hL:IsD 3 L []) (hT:∀ w:WD,GivesV (EE w) 96 [X,N,L] (.sc (.int .i64 (0)))):
  Gives (EE w) 160 [X,N,V,L] fun v=>∃ n,v=runR (evX 100 7 (gval gl) x) n:=by
 refine Gives.of gWF (.cons _ _ hX.wf (.cons _ _ (hN.wf (WFs.map fun _=>.sc _)) (.cons _ _ (hV.wf (WFs.map fun _=>.sc _)) (.cons _ _ (hL.wf .nil) .nil)))) 2 ?_
 have hNn:=fun σ:AStore=>hN.lenN (by simp) (n:=gl.length) (σ:=σ)
 have hVn:=fun σ:AStore=>hV.lenN (by simp) (n:=gl.length) (σ:=σ)
 obtain ⟨k,nm,i,zs⟩:=x
 have hX0:=hX
 simp only [IsEx] at hX
 obtain ⟨S,els,rfl,hS,_⟩:=hX
 have kS:=hS.fit
 have cS:=hS.cells
 have iS:=hS.isCell
 refine ot_160 rfl rfl rfl (by decide) ?_
 refine Top_seq0 (E:=EE ⟨w.w,[]⟩) (fn:=Tryz.f160) rfl rfl (Z_ofV ?_)
 simp -implicitDefEqProofs only [go_sem,kS,cS,iS]
 refine Top_seq0 (E:=EE ⟨w.w,[]⟩) (fn:=Tryz.f160) rfl rfl (Z_ofV ?_)
 (repeat' first|refine vw ?_ ?_<;>intro hq|refine vz ?_|simp -implicitDefEqProofs only [go_sem,hNn,hVn])
 refine Top_seq0 (E:=EE ⟨w.w,[]⟩) (fn:=Tryz.f160) rfl rfl (Z_ofV ?_)
 simp -implicitDefEqProofs only [go_sem]
 refine opsC.mono ?_
 rintro _ τ ⟨rfl,kO,b1,b2,hO⟩
 simp -implicitDefEqProofs only [go_sem]
 have hpm:8<=τ.next:=AStore.lt_of_get hO.m
 have hkk:∀ a b c:ABlk,KeepS τ (((τ.alloc a).alloc b).set (τ.next+1) c):=fun a b c=>((KeepS.alloc τ a).trans (KeepS.alloc _ b)).set (by omega) c
 have gm:∀ a b c:ABlk,(((τ.alloc a).alloc b).set (τ.next+1) c).get τ.next=some a:=fun a b c=>by
  rw [AStore.get_set,if_neg (by omega)]; exact get_alloc_old (by rw [AStore.get_alloc,if_pos rfl])
 have gp:∀ a b c:ABlk,(((τ.alloc a).alloc b).set (τ.next+1) c).get (τ.next+1)=some c:=fun a b c=>gsE (by simp only [alloc_next]; omega)
 have hn1:∀ a b c:ABlk,(((τ.alloc a).alloc b).set (τ.next+1) c).next=τ.next+2:=fun a b c=>by simp only [set_next,alloc_next]
 have gm:=gm (.cells 4 [.agg [.map 5,.map 6,.map 7,(.sc (.int .i64 (0)))]]) (.cells 1 [.sc (.pointer none)]) (.cells 1 [.ptr τ.next 0 0])
 have gp:=gp (.cells 4 [.agg [.map 5,.map 6,.map 7,(.sc (.int .i64 (0)))]]) (.cells 1 [.sc (.pointer none)]) (.cells 1 [.ptr τ.next 0 0])
 have hn1:=hn1 (.cells 4 [.agg [.map 5,.map 6,.map 7,(.sc (.int .i64 (0)))]]) (.cells 1 [.sc (.pointer none)]) (.cells 1 [.ptr τ.next 0 0])
 have hkk:=hkk (.cells 4 [.agg [.map 5,.map 6,.map 7,(.sc (.int .i64 (0)))]]) (.cells 1 [.sc (.pointer none)]) (.cells 1 [.ptr τ.next 0 0])
 generalize hτ1:((τ.alloc (.cells 4 [.agg [.map 5,.map 6,.map 7,(.sc (.int .i64 (0)))]])).alloc (.cells 1 [.sc (.pointer none)])).set (τ.next+1) (.cells 1 [.ptr τ.next 0 0])=τ1 at gm gp hn1 hkk ⊢
 have g0:=hkk.2 0 _ (kO.2 0 (.cells 4 [.agg [(.sc (.int .i64 (k))),.sc (.string nm),(.sc (.int .i64 (i))),S]]) (by kernel_rfl))
 have g1:=hkk.2 1 _ (kO.2 1 (.cells 1 [(.sc (.int .i64 (0)))]) (by kernel_rfl))
 have g2:=hkk.2 2 _ (kO.2 2 (.cells 1 [(.sc (.int .i64 (0)))]) (by kernel_rfl))
 have g3:=hkk.2 3 _ (kO.2 3 (.cells 1 [(.sc (.int .i64 (0)))]) (by kernel_rfl))
 have g4:=hkk.2 4 _ (kO.2 4 (.cells 1 [(.sc (.bool (false)))]) (by kernel_rfl))
 have g5:=hkk.2 5 _ (kO.2 5 (.map [] 0) (by kernel_rfl))
 have hO1:OpsM τ1 7 b1 b2:=⟨hkk.2 _ _ hO.m,hkk.2 _ _ hO.d,hkk.2 _ _ hO.r⟩
 have hpb1:b1≠τ.next:=by rintro rfl; exact absurd (AStore.lt_of_get hO.d) (Nat.lt_irrefl _)
 have hpb2:b2≠τ.next:=by rintro rfl; exact absurd (AStore.lt_of_get hO.r) (Nat.lt_irrefl _)
 clear hτ1 kO hO hkk
 have hb5:∀ b,(∃ l c,τ1.get b=some (.cells l c))->b≠5:=by rintro b ⟨l,c,h⟩ rfl; rw [g5] at h; cases h
 refine Top_seq0 (E:=EE ⟨w.w,[]⟩) (fn:=Tryz.f160) rfl rfl (Z_ofV ?_)
 simp -implicitDefEqProofs only [go_sem,hNn]
 refine vlp (ι:=Nat) (fun j=>[(1,N),(2,V),(3,L),(4,.ptr 0 0 0),(8,.ptr 1 0 0),(9,.ptr 2 0 0),(10,.ptr 3 0 0),(11,.ptr 4 0 0),(12,.ptr (τ.next+1) 0 0),(30,N),(31,(.sc (.int .i64 (gl.length)))),(32,(.sc (.int .i64 (j))))]) (fun j ρ=>j<=gl.length/\KeepM 5 τ1 ρ/\∃ c,ρ.get 5=some (.map (strM (gM (gl.take j))) c)) (fun j=>gl.length - j) (fun _=>rfl) 0 ?_ ?_ ?_
 ·exact vsu
 ·exact ⟨Nat.zero_le _,KeepM.refl _ _,0,g5⟩
 ·rintro j ρ ⟨hj,kr,c,q5⟩
  have r12:=kr.2 _ _ (hb5 _ ⟨_,_,gp⟩) gp
  have rpm:=kr.2 _ _ (hb5 _ ⟨_,_,gm⟩) gm
  simp -implicitDefEqProofs only [go_sem]
  (refine vif ?_ ?_<;>intro hlt)
  ·obtain ⟨p,hp⟩:∃ p,gl[j]?=some p:=⟨gl[j]'(by omega),by simp⟩
   have e1:(gl.map fun p=>sA p.1)[j]?=some (sA p.1):=by rw [List.getElem?_map,hp]; rfl
   have e2:(gl.map fun p=>((.sc (.int .i64 (p.2))):AVal))[j]?=some (.sc (.int .i64 (p.2))):=by rw [List.getElem?_map,hp]; rfl
   obtain ⟨bl,bh⟩:=hb p (List.mem_of_getElem? hp)
   have bh':¬ p.2 > 2147483648:=by omega
   have bl':¬ p.2 < -2147483648:=by omega
   have hw:=wrapS (i:=j) (by omega)
   have hnm:getM (gM (gl.take j)) p.1=none:=getM_app (v:=0) (by
    intro hm
    rw [List.map_take] at hm
    obtain ⟨q,hq,he⟩:=List.mem_take_iff_getElem.1 hm
    have h1:(gl.map (·.1))[j]'(by simp; omega)=p.1:=by
     have:(gl.map (·.1))[j]?=some p.1:=by rw [List.getElem?_map,hp]; rfl
     rw [List.getElem?_eq_getElem (by simp; omega)] at this
     exact Option.some.inj this
    have:=(List.getElem_inj hnod (h₀:=by simp at hq ⊢; omega) (h₁:=by simp; omega)).1 (he.trans h1.symm)
    simp at hq; omega)
   have hlo:lkAt .string (.int .i64 0) true (.string p.1) (some (.map (strM (gM (gl.take j))) c))=some (.tuple [(.sc (.int .i64 (0))),(.sc (.bool (false)))]):=by rw [lk_at,hnm]; rfl
   have hcs:(sA p.1).cells=[.sc (.string p.1)]:=rfl
   (repeat' first|refine vw ?_ ?_<;>intro hq|refine vz ?_|simp -implicitDefEqProofs only [go_sem,hcs,hN.idx e1,hV.idx e2,r12,rpm,q5,lk_strS,hlo,dcf bh',dcf bl'])
   ((try (refine Z_seq ?_; (try simp -implicitDefEqProofs only [go_sem]))); refine Z_draw (by kernel_rfl) [0,1,2,3,4,5,6,7,8,9] [(9,511),(8,224),(7,96),(6,0),(5,0),(4,0),(3,7),(2,3),(1,1),(0,0)] (by kernel_rfl) (by kernel_rfl) ?_)
   have b5:=AStore.lt_of_get q5
   simp -implicitDefEqProofs only [go_sem,hcs,hV.idx e2,r12,rpm,q5,ms_str,ms_new hnm]
   (repeat' first|refine vw ?_ ?_<;>intro hq|refine vz ?_|simp -implicitDefEqProofs only [go_sem,hw])
   refine ⟨j+1,vom,⟨vom,(kr.set _),c+1,?_⟩,vsu⟩
   rw [gsE b5]
   have:gl.take (j+1)=gl.take j++[p]:=by rw [List.take_add_one,hp]; rfl
   rw [this]
   simp only [gM,List.map_append,List.map_cons,List.map_nil]
  ·obtain rfl:j=gl.length:=by omega
   rw [List.take_length] at q5
   have r0:=kr.2 _ _ (by decide) g0
   have r1:=kr.2 _ _ (by decide) g1
   have r2:=kr.2 _ _ (by decide) g2
   have r3:=kr.2 _ _ (by decide) g3
   have r4:=kr.2 _ _ (by decide) g4
   have hMc:Mc ρ τ.next 5 6 7 b1 b2 0 gl:=⟨kr.2 _ _ (hb5 _ ⟨_,_,gm⟩) gm,⟨c,q5⟩,⟨kr.2 _ _ (by decide) hO1.m,kr.2 _ _ (hb5 _ ⟨_,_,hO1.d⟩) hO1.d,kr.2 _ _ (hb5 _ ⟨_,_,hO1.r⟩) hO1.r⟩,vom,vom,hpb1,hpb2⟩
   have hnr:τ.next+1 < ρ.next:=AStore.lt_of_get r12
   (repeat' first|refine vw ?_ ?_<;>intro hq|refine vz ?_|simp -implicitDefEqProofs only [go_sem])
   refine Top_seq0 (E:=EE ⟨w.w,[]⟩) (fn:=Tryz.f160) rfl rfl (Z_ofV ?_)
   simp -implicitDefEqProofs only [go_sem,r0]
   refine (hT ⟨w.w,[]⟩).use ?_
   (repeat' first|refine vw ?_ ?_<;>intro hq|refine vz ?_|simp -implicitDefEqProofs only [go_sem])
   refine Top_seq0 (E:=EE ⟨w.w,[]⟩) (fn:=Tryz.f160) rfl rfl (Z_ofV ?_)
   have hLn:=fun σ:AStore=>hL.lenN rfl (σ:=σ) (n:=0)
   (repeat' first|refine vw ?_ ?_<;>intro hq|refine vz ?_|simp -implicitDefEqProofs only [go_sem,hLn])
   refine vlp (ι:=Unit) (fun _=>[(4,.ptr 0 0 0),(8,.ptr 1 0 0),(9,.ptr 2 0 0),(10,.ptr 3 0 0),(11,.ptr 4 0 0),(12,.ptr (τ.next+1) 0 0),(78,L),(79,(.sc (.int .i64 (0)))),(80,(.sc (.int .i64 (0))))]) (fun _ ρ'=>ρ'=ρ) (fun _=>0) (fun _=>rfl) () ?_ ?_ ?_
   ·exact vsu
   ·rfl
   rintro _ ρ0 hρ
   rw [hρ]
   clear hρ
   (repeat' first|refine vw ?_ ?_<;>intro hq|refine vz ?_|simp -implicitDefEqProofs only [go_sem])
   refine Top_dfr1 (E:=EE ⟨w.w,[]⟩) (Ed:=fun ds=>EE ⟨w.w,ds⟩) (fun _=>rfl) rfl rfl ?_
   simp -implicitDefEqProofs only [go_sem]
   refine ⟨⟨.func 173,[.ptr (τ.next+1) 0 0,.ptr 1 0 0,.ptr 2 0 0,.ptr 3 0 0,.ptr 4 0 0],[]⟩,rfl,?_⟩
   refine Top_undsR (rs:=[.cell 8 2,.cell 9 3,.cell 10 38,.cell 11 4]) (E:=EE ⟨w.w,[]⟩) (Ed:=fun ds=>EE ⟨w.w,ds⟩) (fun _=>rfl) rfl (g:=173) (cap:=[.ptr (τ.next+1) 0 0,.ptr 1 0 0,.ptr 2 0 0,.ptr 3 0 0,.ptr 4 0 0]) (as':=[]) rfl rfl rfl (Z_ofV ?_)
   simp -implicitDefEqProofs only [go_sem,r12,r0]
   refine (expC (gval_in hb) _ hX0 hok hMc (by omega)).mono ?_
   rintro _ ρ1 ⟨rfl,kp,n',_,_,mm⟩
   have s1:=kp.2 _ _ (by omega) r1
   have s2:=kp.2 _ _ (by omega) r2
   have s3:=kp.2 _ _ (by omega) r3
   have s4:=kp.2 _ _ (by omega) r4
   have s12:=kp.2 _ _ (by omega) r12
   have mm':ρ1.get τ.next=some (.cells 4 [.agg [.map 5,.map 6,.map 7,(.sc (.int .i64 (n')))]]):=mm
   have l1:=AStore.lt_of_get s1
   have l2:=AStore.lt_of_get s2
   have l3:=AStore.lt_of_get s3
   have l4:=AStore.lt_of_get s4
   have nt1:¬ (τ.next=1):=by omega
   have nt2:¬ (τ.next=2):=by omega
   have nt3:¬ (τ.next=3):=by omega
   have nt4:¬ (τ.next=4):=by omega
   have np1:¬ (τ.next+1=1):=by omega
   have np2:¬ (τ.next+1=2):=by omega
   have np3:¬ (τ.next+1=3):=by omega
   have np4:¬ (τ.next+1=4):=by omega
   generalize evX 100 7 (gval gl) (.mk k nm i zs)=p
   by_cases he:p.2=0
   ·rw [if_pos he]
    (repeat' first|refine vw ?_ ?_<;>intro hq|refine vz ?_|simp -implicitDefEqProofs only [go_sem,s1,l1])
    ((try (refine Z_seq ?_; (try simp -implicitDefEqProofs only [go_sem]))); refine Z_draw (by kernel_rfl) [0,1,2,3,4,5,6,7,8] [(8,255),(7,127),(6,63),(5,1),(4,14),(3,6),(2,2),(1,0),(0,0)] (by kernel_rfl) (by kernel_rfl) ?_)
    simp -implicitDefEqProofs only [go_sem,s1,s2,s3,s4,s12,mm',l1,l2,l3,l4,nt1,nt2,nt3,nt4,np1,np2,np3,np4]
    (repeat' first|refine vw ?_ ?_<;>intro hq|refine vz ?_|simp -implicitDefEqProofs only [go_sem])
    refine run1N.mono ?_
    rintro _ _ _ ⟨⟨_,rfl⟩,rfl,rfl⟩
    show dRd _ _
    simp -implicitDefEqProofs only [go_sem,s1,s2,s3,s4,l1,l2,l3,l4]
    exact ⟨_,_,rfl,rfl,n',by unfold runR; rw [if_pos he,he]⟩
   ·rw [if_neg he]
    refine (run1P s12 mm' ⟨_,s1⟩ ⟨_,s2⟩ ⟨_,s3⟩ ⟨_,s4⟩ (by decide) (by decide) (by decide) (by decide) (by decide) (by decide)).mono ?_
    rintro _ _ ρ2 ⟨⟨_,rfl⟩,rfl,q1,⟨n2,q2⟩,q3,q4⟩
    show dRd _ _
    simp -implicitDefEqProofs only [go_sem,q1,q2,q3,q4]
    exact ⟨_,_,rfl,rfl,n2,by unfold runR; rw [if_neg he]⟩
theorem valueC {w:WD} {x:Ex} {X N V L:AVal} {gl:List (ByteArray×Int)} (hX:IsEx x X) (hok:okX x=true) (hnd:nodesE x<=1000) (hN:IsD 1 N (gl.map fun p=>sA p.1)) (hV:IsD 1 V (gl.map fun p=>(.sc (.int .i64 (p.2)))))
  (hnod:(gl.map (·.1)).Nodup) (hb:∀ p∈gl,-2147483648<=p.2/\p.2<=2147483648) (hl:gl.length<=1000000) (hL:IsD 3 L []) (hT:∀ w:WD,GivesV (EE w) 96 [X,N,L] (.sc (.int .i64 (0)))):
  GivesV (EE w) 139 [X,N,V,L] (.tuple [(.sc (.int .i64 (if (evX 100 7 (gval gl) x).2=0 then (evX 100 7 (gval gl) x).1 else 0))),(.sc (.int .i64 ((evX 100 7 (gval gl) x).2)))]):=by
 have hrun:=runC (w:=⟨w.w,[]⟩) hX hok hnd hN hV hnod hb hl hL hT
 refine GivesV.of gWF (.cons _ _ hX.wf (.cons _ _ (hN.wf (WFs.map fun _=>.sc _)) (.cons _ _ (hV.wf (WFs.map fun _=>.sc _)) (.cons _ _ (hL.wf .nil) .nil)))) 2 ?_
 generalize evX 100 7 (gval gl) x=p at hrun ⊢
 obtain ⟨k,nm,i,zs⟩:=x
 simp only [IsEx] at hX
 obtain ⟨S,els,rfl,hS,_⟩:=hX
 have kS:=hS.fit
 have cS:=hS.cells
 have iS:=hS.isCell
 refine of_139 rfl rfl rfl (by kernel_rfl) ?_
 simp -implicitDefEqProofs only [go_sem,kS,cS,iS]
 refine hrun.use ?_
 rintro _ ⟨n,rfl⟩
 unfold runR
 (repeat' first|refine vw ?_ ?_<;>intro hq|refine vz ?_|simp -implicitDefEqProofs only [go_sem])
 exact ⟨_,rfl,rfl⟩
end Abs
end
