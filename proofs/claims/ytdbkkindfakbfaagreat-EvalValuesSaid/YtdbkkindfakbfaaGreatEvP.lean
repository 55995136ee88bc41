/-
  Functions of the program walked: each is shown to compute a plain function (EvP).
-/
import Derived.Test.YtdbkkindfakbfaaGreatTF
import Derived.Test.YtdbkkindfakbfaaGreatT1
import Derived.Test.YtdbkkindfakbfaaGreatT8
import Derived.Test.YtdbkkindfakbfaaGreatT18
import Derived.Test.YtdbkkindfakbfaaGreatT31
set_option linter.unusedSimpArgs false
set_option linter.unusedVariables false
set_option maxRecDepth 100000
set_option maxHeartbeats 16000000
noncomputable section
namespace Abs
open Go
def oneI (p:Bool):Int:=if p then 1 else 0
def opV (k a b:Int):Int:=
 if k=3 then -a else if k=4 then oneI (decide (a=0)) else if k=5 then a+b else if k=6 then a - b else if k=7 then a*b
 else if k=8 then a.tdiv b else if k=9 then a.tmod b else if k=10 then oneI (decide (a < b)) else if k=11 then oneI (decide (a<=b))
 else if k=12 then oneI (decide (a=b)) else if k=13 then oneI (!decide (a=b)) else if k=14 then oneI (decide (b<=a)) else oneI (decide (b < a))
/-- 100: division by nothing; 7: too great. -/
def finV (eM eR:Int) (k a b:Int):Int×Int:=
 if (k=8\/k=9)/\b=0 then (0,eM) else if opV k a b > 2147483648\/opV k a b < -2147483648 then (0,eR) else (opV k a b,0)
variable (eM eR:Int) (g:ByteArray->Int)
variable {nameB:ByteArray->Bool} {gs os:List ByteArray}
theorem oneI_in (p:Bool):0<=oneI p/\oneI p<=1:=by cases p<;>decide
theorem finV_in (eM eR k a b:Int):-2147483648<=(finV eM eR k a b).1/\(finV eM eR k a b).1<=2147483648:=by
 unfold finV
 split
 ·exact ⟨by show (-2147483648:Int)<=0; decide,by show (0:Int)<=2147483648; decide⟩
 ·split
  ·exact ⟨by show (-2147483648:Int)<=0; decide,by show (0:Int)<=2147483648; decide⟩
  ·rename_i h; show -2147483648<=opV k a b/\opV k a b<=2147483648; omega
end Abs
namespace Abs
open Go Go.Proofs
def endA (c:Int):AVal:=.iface 69 (.agg [(.sc (.int .i64 (c)))])
def opsL (b1 b2:Nat):List (AVal×AVal):=[((.sc (.int .i64 (3))),.func (.func 39) [] []),((.sc (.int .i64 (4))),.func (.func 40) [] []),((.sc (.int .i64 (5))),.func (.func 42) [] []),((.sc (.int .i64 (6))),.func (.func 43) [] []),((.sc (.int .i64 (7))),.func (.func 44) [] []),((.sc (.int .i64 (8))),.func (.func 38) [] [.ptr b1 0 0]),((.sc (.int .i64 (9))),.func (.func 38) [] [.ptr b2 0 0]),((.sc (.int .i64 (10))),.func (.func 47) [] []),((.sc (.int .i64 (11))),.func (.func 48) [] []),((.sc (.int .i64 (12))),.func (.func 49) [] []),((.sc (.int .i64 (13))),.func (.func 50) [] []),((.sc (.int .i64 (14))),.func (.func 51) [] []),((.sc (.int .i64 (15))),.func (.func 52) [] [])]
def opN (k:Int):FuncId:=if k=3 then 39 else if k=4 then 40 else if k=5 then 42 else if k=6 then 43 else if k=7 then 44 else if k=10 then 47 else if k=11 then 48 else if k=12 then 49 else if k=13 then 50 else if k=14 then 51 else if k=15 then 52 else 38
def opC (b1 b2:Nat) (k:Int):List AVal:=if k=8 then [.ptr b1 0 0] else if k=9 then [.ptr b2 0 0] else []
structure OpsM (σ:AStore) (bo b1 b2:Nat):Prop where
 m:σ.get bo=some (.map (opsL b1 b2) 13)
 d:σ.get b1=some (.cells 1 [.func (.func 45) [] []])
 r:σ.get b2=some (.cells 1 [.func (.func 46) [] []])
theorem op_cases {k:Int} (h1:3<=k) (h2:k<=15):k=3\/k=4\/k=5\/k=6\/k=7\/k=8\/k=9\/k=10\/k=11\/k=12\/k=13\/k=14\/k=15:=by omega
theorem opsL_at {b1 b2:Nat} {k:Int} (h1:3<=k) (h2:k<=15):lkAt (.int .i64) .nilFunc false (.int .i64 k) (some (.map (opsL b1 b2) 13))=some (.func (.func (opN k)) [] (opC b1 b2 k)):=by
 rcases op_cases h1 h2 with rfl|rfl|rfl|rfl|rfl|rfl|rfl|rfl|rfl|rfl|rfl|rfl|rfl<;>rfl
theorem opN_fns {w:WD} {k:Int} (h1:3<=k) (h2:k<=15):(EE w).fns (opN k)=true:=by
 rcases op_cases h1 h2 with rfl|rfl|rfl|rfl|rfl|rfl|rfl|rfl|rfl|rfl|rfl|rfl|rfl<;>kernel_rfl
theorem oneC {w:WD} (p:Bool):GivesV (EE w) 41 [(.sc (.bool (p)))] (.sc (.int .i64 (oneI p))):=by
 refine GivesV.of (fun _=>.sc _) (.cons _ _ (.sc _) .nil) 1 ?_
 refine of_41 rfl rfl rfl (by kernel_rfl) ?_
 cases p with
 | true=>
  (repeat' first|refine vw ?_ ?_<;>intro hq|refine vz ?_|simp -implicitDefEqProofs only [go_sem])
  exact ⟨_,rfl,rfl⟩
 | false=>
  (repeat' first|refine vw ?_ ?_<;>intro hq|refine vz ?_|simp -implicitDefEqProofs only [go_sem])
  exact ⟨_,rfl,rfl⟩
theorem mul_in31 {a b:Int} (ha:-2147483648<=a/\a<=2147483648) (hb:-2147483648<=b/\b<=2147483648):-4611686018427387904<=a*b/\a*b<=4611686018427387904:=by
 have h1:a.natAbs<=2147483648:=by omega
 have h2:b.natAbs<=2147483648:=by omega
 have h3:(a*b).natAbs<=2147483648*2147483648:=by rw [Int.natAbs_mul]; exact Nat.mul_le_mul h1 h2
 omega
theorem tdiv_wrap {a b:Int} (ha:-2147483648<=a/\a<=2147483648):IntKind.i64.wrap (a.tdiv b)=a.tdiv b:=by
 have h1:(a.tdiv b).natAbs<=a.natAbs:=by rw [Int.natAbs_tdiv]; exact Nat.div_le_self _ _
 exact wrap64 (by omega) (by omega)
theorem ret_inE {σ:AStore} {n:Nat} {b c:Int} (h:b=c):∃ u,AEnd.ret (.sc (.int .i64 (b)))=AEnd.ret u/\frz σ (n+1) u=some (.sc (.int .i64 (c))):=⟨_,rfl,by rw [h]; rfl⟩
theorem op3C {w:WD} {a b:Int} (ha:-2147483648<=a/\a<=2147483648) (hb:-2147483648<=b/\b<=2147483648):GivesV (EE w) 39 [(.sc (.int .i64 (a))),(.sc (.int .i64 (b)))] (.sc (.int .i64 (-a))):=by
 refine GivesV.of (fun _=>.sc _) (.cons _ _ (.sc _) (.cons _ _ (.sc _) .nil)) 1 ?_
 refine of_39 rfl rfl rfl (by kernel_rfl) ?_
 (repeat' first|refine vw ?_ ?_<;>intro hq|refine vz ?_|simp -implicitDefEqProofs only [go_sem])
 refine ret_inE ?_
 have:=mul_in31 ha hb
 rw [Int.zero_sub]
 exact wrap64 (by omega) (by omega)
theorem op5C {w:WD} {a b:Int} (ha:-2147483648<=a/\a<=2147483648) (hb:-2147483648<=b/\b<=2147483648):GivesV (EE w) 42 [(.sc (.int .i64 (a))),(.sc (.int .i64 (b)))] (.sc (.int .i64 (a+b))):=by
 refine GivesV.of (fun _=>.sc _) (.cons _ _ (.sc _) (.cons _ _ (.sc _) .nil)) 1 ?_
 refine of_42 rfl rfl rfl (by kernel_rfl) ?_
 (repeat' first|refine vw ?_ ?_<;>intro hq|refine vz ?_|simp -implicitDefEqProofs only [go_sem])
 refine ret_inE ?_
 have:=mul_in31 ha hb
 exact wrap64 (by omega) (by omega)
theorem op6C {w:WD} {a b:Int} (ha:-2147483648<=a/\a<=2147483648) (hb:-2147483648<=b/\b<=2147483648):GivesV (EE w) 43 [(.sc (.int .i64 (a))),(.sc (.int .i64 (b)))] (.sc (.int .i64 (a - b))):=by
 refine GivesV.of (fun _=>.sc _) (.cons _ _ (.sc _) (.cons _ _ (.sc _) .nil)) 1 ?_
 refine of_43 rfl rfl rfl (by kernel_rfl) ?_
 (repeat' first|refine vw ?_ ?_<;>intro hq|refine vz ?_|simp -implicitDefEqProofs only [go_sem])
 refine ret_inE ?_
 have:=mul_in31 ha hb
 exact wrap64 (by omega) (by omega)
theorem op7C {w:WD} {a b:Int} (ha:-2147483648<=a/\a<=2147483648) (hb:-2147483648<=b/\b<=2147483648):GivesV (EE w) 44 [(.sc (.int .i64 (a))),(.sc (.int .i64 (b)))] (.sc (.int .i64 (a*b))):=by
 refine GivesV.of (fun _=>.sc _) (.cons _ _ (.sc _) (.cons _ _ (.sc _) .nil)) 1 ?_
 refine of_44 rfl rfl rfl (by kernel_rfl) ?_
 (repeat' first|refine vw ?_ ?_<;>intro hq|refine vz ?_|simp -implicitDefEqProofs only [go_sem])
 refine ret_inE ?_
 have:=mul_in31 ha hb
 exact wrap64 (by omega) (by omega)
theorem op4C {w:WD} {a b:Int}:GivesV (EE w) 40 [(.sc (.int .i64 (a))),(.sc (.int .i64 (b)))] (.sc (.int .i64 (oneI (decide (a=0))))):=by
 refine GivesV.of (fun _=>.sc _) (.cons _ _ (.sc _) (.cons _ _ (.sc _) .nil)) 1 ?_
 refine of_40 rfl rfl rfl (by kernel_rfl) ?_
 simp -implicitDefEqProofs only [go_sem]
 refine (oneC _).use ?_
 (repeat' first|refine vw ?_ ?_<;>intro hq|refine vz ?_|simp -implicitDefEqProofs only [go_sem])
 exact ret_inE rfl
theorem op10C {w:WD} {a b:Int}:GivesV (EE w) 47 [(.sc (.int .i64 (a))),(.sc (.int .i64 (b)))] (.sc (.int .i64 (oneI (decide (a < b))))):=by
 refine GivesV.of (fun _=>.sc _) (.cons _ _ (.sc _) (.cons _ _ (.sc _) .nil)) 1 ?_
 refine of_47 rfl rfl rfl (by kernel_rfl) ?_
 simp -implicitDefEqProofs only [go_sem]
 refine (oneC _).use ?_
 (repeat' first|refine vw ?_ ?_<;>intro hq|refine vz ?_|simp -implicitDefEqProofs only [go_sem])
 exact ret_inE rfl
theorem op11C {w:WD} {a b:Int}:GivesV (EE w) 48 [(.sc (.int .i64 (a))),(.sc (.int .i64 (b)))] (.sc (.int .i64 (oneI (decide (a<=b))))):=by
 refine GivesV.of (fun _=>.sc _) (.cons _ _ (.sc _) (.cons _ _ (.sc _) .nil)) 1 ?_
 refine of_48 rfl rfl rfl (by kernel_rfl) ?_
 simp -implicitDefEqProofs only [go_sem]
 refine (oneC _).use ?_
 (repeat' first|refine vw ?_ ?_<;>intro hq|refine vz ?_|simp -implicitDefEqProofs only [go_sem])
 exact ret_inE rfl
theorem op12C {w:WD} {a b:Int}:GivesV (EE w) 49 [(.sc (.int .i64 (a))),(.sc (.int .i64 (b)))] (.sc (.int .i64 (oneI (decide (a=b))))):=by
 refine GivesV.of (fun _=>.sc _) (.cons _ _ (.sc _) (.cons _ _ (.sc _) .nil)) 1 ?_
 refine of_49 rfl rfl rfl (by kernel_rfl) ?_
 simp -implicitDefEqProofs only [go_sem]
 refine (oneC _).use ?_
 (repeat' first|refine vw ?_ ?_<;>intro hq|refine vz ?_|simp -implicitDefEqProofs only [go_sem])
 exact ret_inE rfl
theorem op13C {w:WD} {a b:Int}:GivesV (EE w) 50 [(.sc (.int .i64 (a))),(.sc (.int .i64 (b)))] (.sc (.int .i64 (oneI (!decide (a=b))))):=by
 refine GivesV.of (fun _=>.sc _) (.cons _ _ (.sc _) (.cons _ _ (.sc _) .nil)) 1 ?_
 refine of_50 rfl rfl rfl (by kernel_rfl) ?_
 simp -implicitDefEqProofs only [go_sem]
 refine (oneC _).use ?_
 (repeat' first|refine vw ?_ ?_<;>intro hq|refine vz ?_|simp -implicitDefEqProofs only [go_sem])
 exact ret_inE rfl
theorem op14C {w:WD} {a b:Int}:GivesV (EE w) 51 [(.sc (.int .i64 (a))),(.sc (.int .i64 (b)))] (.sc (.int .i64 (oneI (decide (b<=a))))):=by
 refine GivesV.of (fun _=>.sc _) (.cons _ _ (.sc _) (.cons _ _ (.sc _) .nil)) 1 ?_
 refine of_51 rfl rfl rfl (by kernel_rfl) ?_
 simp -implicitDefEqProofs only [go_sem]
 refine (oneC _).use ?_
 (repeat' first|refine vw ?_ ?_<;>intro hq|refine vz ?_|simp -implicitDefEqProofs only [go_sem])
 exact ret_inE rfl
theorem op15C {w:WD} {a b:Int}:GivesV (EE w) 52 [(.sc (.int .i64 (a))),(.sc (.int .i64 (b)))] (.sc (.int .i64 (oneI (decide (b < a))))):=by
 refine GivesV.of (fun _=>.sc _) (.cons _ _ (.sc _) (.cons _ _ (.sc _) .nil)) 1 ?_
 refine of_52 rfl rfl rfl (by kernel_rfl) ?_
 simp -implicitDefEqProofs only [go_sem]
 refine (oneC _).use ?_
 (repeat' first|refine vw ?_ ?_<;>intro hq|refine vz ?_|simp -implicitDefEqProofs only [go_sem])
 exact ret_inE rfl
theorem opd0C {w:WD} {a b:Int} (h0:b≠0) (ha:-2147483648<=a/\a<=2147483648) (hb:-2147483648<=b/\b<=2147483648):GivesV (EE w) 45 [(.sc (.int .i64 (a))),(.sc (.int .i64 (b)))] (.sc (.int .i64 (a.tdiv b))):=by
 refine GivesV.of (fun _=>.sc _) (.cons _ _ (.sc _) (.cons _ _ (.sc _) .nil)) 1 ?_
 refine of_45 rfl rfl rfl (by kernel_rfl) ?_
 (repeat' first|refine vw ?_ ?_<;>intro hq|refine vz ?_|simp -implicitDefEqProofs only [go_sem,sc_quo h0,sc_rem h0])
 refine ret_inE ?_
 exact tdiv_wrap ha
theorem opd1C {w:WD} {a b:Int} (h0:b≠0) (ha:-2147483648<=a/\a<=2147483648) (hb:-2147483648<=b/\b<=2147483648):GivesV (EE w) 46 [(.sc (.int .i64 (a))),(.sc (.int .i64 (b)))] (.sc (.int .i64 (a.tmod b))):=by
 refine GivesV.of (fun _=>.sc _) (.cons _ _ (.sc _) (.cons _ _ (.sc _) .nil)) 1 ?_
 refine of_46 rfl rfl rfl (by kernel_rfl) ?_
 (repeat' first|refine vw ?_ ?_<;>intro hq|refine vz ?_|simp -implicitDefEqProofs only [go_sem,sc_quo h0,sc_rem h0])
 refine ret_inE ?_
 rfl
def gval:List (ByteArray×Int)->ByteArray->Int
 | [],_=>0
 | p::l,k=>if p.1=k then p.2 else gval l k
def gM (l:List (ByteArray×Int)):List (ByteArray×AVal):=l.map fun p=>(p.1,(.sc (.int .i64 (p.2))))
theorem getM_g {k:ByteArray}:∀ l:List (ByteArray×Int),lkOut false (.int .i64 0) ((getM (gM l) k).map (·.2))=(.sc (.int .i64 (gval l k)))
  | []=>rfl
  | p :: l => by
      simp only [gM,List.map_cons,getM,gval]
      by_cases h:p.1=k
      · simp only [h,if_true]; rfl
      · simp only [h,if_false]
        rw [<-getM_g l]
        simp only [gM]
        cases getM (l.map fun p=>(p.1,(.sc (.int .i64 (p.2))))) k<;>rfl
theorem lk_g {l:List (ByteArray×Int)} {c:Nat} {k:ByteArray}:lkAt .string (.int .i64 0) false (.string k) (some (.map (strM (gM l)) c))=some (.sc (.int .i64 (gval l k))):=by
 rw [lkAt_map,aFind_str,<-getM_g l]
 cases getM (gM l) k<;>rfl
theorem stepC {w:WD} {σ:AStore} {pm bg bf bo n:Nat} (hm:σ.get pm=some (.cells 4 [.agg [.map bg,.map bf,.map bo,(.sc (.int .i64 (n)))]])) (hn:n < 1000):
  ACalls (EE w) 56 [.ptr pm 0 0] σ fun e σ'=>(∃ v,e=.ret v)/\σ'.get pm=some (.cells 4 [.agg [.map bg,.map bf,.map bo,(.sc (.int .i64 (((n+1:Nat):Int))))]])/\KeepM pm σ σ':=by
 have hlt:=AStore.lt_of_get hm
 have h1:¬ ((n:Int)=1000):=by omega
 have hw:IntKind.i64.wrap ((n:Int)+1)=((n+1:Nat):Int):=wrapS (by omega)
 refine of_56 rfl rfl rfl (by kernel_rfl) ?_
 simp -implicitDefEqProofs only [go_sem,hm,dcf h1]
 (repeat' first|refine vw ?_ ?_<;>intro hq|refine vz ?_|simp -implicitDefEqProofs only [go_sem,hm,hw])
 exact ⟨⟨_,rfl⟩,by rw [if_pos hlt],(KeepM.refl pm σ).set _⟩
theorem ops1C {w:WD} {f:FuncId} {σ:AStore}:ACalls (EE w) 37 [.func (.func f) [] []] σ fun e σ'=>e=.ret (.func (.func 38) [] [.ptr σ.next 0 0])/\σ'=σ.alloc (.cells 1 [.func (.func f) [] []]):=by
 refine of_37 rfl rfl rfl (by kernel_rfl) ?_
 (repeat' first|refine vw ?_ ?_<;>intro hq|refine vz ?_|simp -implicitDefEqProofs only [go_sem])
theorem afo0:aFind (.int .i64) (.int .i64 3) [] 0=some none:=rfl
theorem afo1:aFind (.int .i64) (.int .i64 4) [((.sc (.int .i64 (3))),.func (.func 39) [] [])] 0=some none:=rfl
theorem afo2:aFind (.int .i64) (.int .i64 5) [((.sc (.int .i64 (3))),.func (.func 39) [] []),((.sc (.int .i64 (4))),.func (.func 40) [] [])] 0=some none:=rfl
theorem afo3:aFind (.int .i64) (.int .i64 6) [((.sc (.int .i64 (3))),.func (.func 39) [] []),((.sc (.int .i64 (4))),.func (.func 40) [] []),((.sc (.int .i64 (5))),.func (.func 42) [] [])] 0=some none:=rfl
theorem afo4:aFind (.int .i64) (.int .i64 7) [((.sc (.int .i64 (3))),.func (.func 39) [] []),((.sc (.int .i64 (4))),.func (.func 40) [] []),((.sc (.int .i64 (5))),.func (.func 42) [] []),((.sc (.int .i64 (6))),.func (.func 43) [] [])] 0=some none:=rfl
theorem afo5:aFind (.int .i64) (.int .i64 8) [((.sc (.int .i64 (3))),.func (.func 39) [] []),((.sc (.int .i64 (4))),.func (.func 40) [] []),((.sc (.int .i64 (5))),.func (.func 42) [] []),((.sc (.int .i64 (6))),.func (.func 43) [] []),((.sc (.int .i64 (7))),.func (.func 44) [] [])] 0=some none:=rfl
theorem afo6 {b1:Nat}:aFind (.int .i64) (.int .i64 9) [((.sc (.int .i64 (3))),.func (.func 39) [] []),((.sc (.int .i64 (4))),.func (.func 40) [] []),((.sc (.int .i64 (5))),.func (.func 42) [] []),((.sc (.int .i64 (6))),.func (.func 43) [] []),((.sc (.int .i64 (7))),.func (.func 44) [] []),((.sc (.int .i64 (8))),.func (.func 38) [] [.ptr b1 0 0])] 0=some none:=rfl
theorem afo7 {b1 b2:Nat}:aFind (.int .i64) (.int .i64 10) [((.sc (.int .i64 (3))),.func (.func 39) [] []),((.sc (.int .i64 (4))),.func (.func 40) [] []),((.sc (.int .i64 (5))),.func (.func 42) [] []),((.sc (.int .i64 (6))),.func (.func 43) [] []),((.sc (.int .i64 (7))),.func (.func 44) [] []),((.sc (.int .i64 (8))),.func (.func 38) [] [.ptr b1 0 0]),((.sc (.int .i64 (9))),.func (.func 38) [] [.ptr b2 0 0])] 0=some none:=rfl
theorem afo8 {b1 b2:Nat}:aFind (.int .i64) (.int .i64 11) [((.sc (.int .i64 (3))),.func (.func 39) [] []),((.sc (.int .i64 (4))),.func (.func 40) [] []),((.sc (.int .i64 (5))),.func (.func 42) [] []),((.sc (.int .i64 (6))),.func (.func 43) [] []),((.sc (.int .i64 (7))),.func (.func 44) [] []),((.sc (.int .i64 (8))),.func (.func 38) [] [.ptr b1 0 0]),((.sc (.int .i64 (9))),.func (.func 38) [] [.ptr b2 0 0]),((.sc (.int .i64 (10))),.func (.func 47) [] [])] 0=some none:=rfl
theorem afo9 {b1 b2:Nat}:aFind (.int .i64) (.int .i64 12) [((.sc (.int .i64 (3))),.func (.func 39) [] []),((.sc (.int .i64 (4))),.func (.func 40) [] []),((.sc (.int .i64 (5))),.func (.func 42) [] []),((.sc (.int .i64 (6))),.func (.func 43) [] []),((.sc (.int .i64 (7))),.func (.func 44) [] []),((.sc (.int .i64 (8))),.func (.func 38) [] [.ptr b1 0 0]),((.sc (.int .i64 (9))),.func (.func 38) [] [.ptr b2 0 0]),((.sc (.int .i64 (10))),.func (.func 47) [] []),((.sc (.int .i64 (11))),.func (.func 48) [] [])] 0=some none:=rfl
theorem afo10 {b1 b2:Nat}:aFind (.int .i64) (.int .i64 13) [((.sc (.int .i64 (3))),.func (.func 39) [] []),((.sc (.int .i64 (4))),.func (.func 40) [] []),((.sc (.int .i64 (5))),.func (.func 42) [] []),((.sc (.int .i64 (6))),.func (.func 43) [] []),((.sc (.int .i64 (7))),.func (.func 44) [] []),((.sc (.int .i64 (8))),.func (.func 38) [] [.ptr b1 0 0]),((.sc (.int .i64 (9))),.func (.func 38) [] [.ptr b2 0 0]),((.sc (.int .i64 (10))),.func (.func 47) [] []),((.sc (.int .i64 (11))),.func (.func 48) [] []),((.sc (.int .i64 (12))),.func (.func 49) [] [])] 0=some none:=rfl
theorem afo11 {b1 b2:Nat}:aFind (.int .i64) (.int .i64 14) [((.sc (.int .i64 (3))),.func (.func 39) [] []),((.sc (.int .i64 (4))),.func (.func 40) [] []),((.sc (.int .i64 (5))),.func (.func 42) [] []),((.sc (.int .i64 (6))),.func (.func 43) [] []),((.sc (.int .i64 (7))),.func (.func 44) [] []),((.sc (.int .i64 (8))),.func (.func 38) [] [.ptr b1 0 0]),((.sc (.int .i64 (9))),.func (.func 38) [] [.ptr b2 0 0]),((.sc (.int .i64 (10))),.func (.func 47) [] []),((.sc (.int .i64 (11))),.func (.func 48) [] []),((.sc (.int .i64 (12))),.func (.func 49) [] []),((.sc (.int .i64 (13))),.func (.func 50) [] [])] 0=some none:=rfl
theorem afo12 {b1 b2:Nat}:aFind (.int .i64) (.int .i64 15) [((.sc (.int .i64 (3))),.func (.func 39) [] []),((.sc (.int .i64 (4))),.func (.func 40) [] []),((.sc (.int .i64 (5))),.func (.func 42) [] []),((.sc (.int .i64 (6))),.func (.func 43) [] []),((.sc (.int .i64 (7))),.func (.func 44) [] []),((.sc (.int .i64 (8))),.func (.func 38) [] [.ptr b1 0 0]),((.sc (.int .i64 (9))),.func (.func 38) [] [.ptr b2 0 0]),((.sc (.int .i64 (10))),.func (.func 47) [] []),((.sc (.int .i64 (11))),.func (.func 48) [] []),((.sc (.int .i64 (12))),.func (.func 49) [] []),((.sc (.int .i64 (13))),.func (.func 50) [] []),((.sc (.int .i64 (14))),.func (.func 51) [] [])] 0=some none:=rfl
theorem gss {σ:AStore} {b:Nat} {x:ABlk} (h:b < σ.next):(σ.set b x).get b=some x:=by rw [AStore.get_set,if_pos ⟨rfl,h⟩]
theorem opsC {w:WD} {σ:AStore}:ACalls (EE w) 26 [] σ fun e σ'=>e=.ret (.map σ.next)/\KeepS σ σ'/\∃ b1 b2,OpsM σ' σ.next b1 b2:=by
 have hms:∀ (τ:AStore) (b:Nat) (k:Int) (v:AVal),aMapSet (.int .i64) (.map b) (.sc (.int .i64 (k))) v τ=msAt τ b (.int .i64) (.int .i64 k) v (τ.get b):=fun τ b k v=>aMapSet_map rfl
 refine of_26 rfl rfl rfl (by kernel_rfl) ?_
 have hb:(EE ⟨w.w,[]⟩).fns 37=true:=by kernel_rfl
 (repeat' first|refine vw ?_ ?_<;>intro hq|refine vz ?_|simp -implicitDefEqProofs only [go_sem,hms,msAt_map,Option.map_some,List.nil_append,List.cons_append,List.append_assoc,afo0,afo1,afo2,afo3,afo4,hb])
 refine ops1C.mono ?_
 rintro _ τ ⟨rfl,hτ⟩
 have hg:=(congrArg (fun s=>AStore.get s σ.next) hτ).trans (get_alloc_old (gss (by simp only [set_next,alloc_next]; omega)))
 have hn:τ.next=σ.next+2:=by rw [hτ]; simp only [set_next,alloc_next]
 have hk:KeepS σ τ:=by rw [hτ]; exact ((((((KeepS.alloc σ _).set (Nat.le_refl _) _).set (Nat.le_refl _) _).set (Nat.le_refl _) _).set (Nat.le_refl _) _).set (Nat.le_refl _) _).trans (KeepS.alloc _ _)
 have hd:τ.get (σ.next+1)=some (.cells 1 [.func (.func 45) [] []]):=by rw [hτ,AStore.get_alloc,if_pos (by simp only [set_next,alloc_next])]
 have hx:∀ s:AStore,s.next=σ.next+1->(s.next:Nat)=σ.next+1:=fun _ h=>h
 simp only [set_next,alloc_next]
 clear hτ
 (repeat' first|refine vw ?_ ?_<;>intro hq|refine vz ?_|simp -implicitDefEqProofs only [go_sem,hms,msAt_map,Option.map_some,List.nil_append,List.cons_append,List.append_assoc,hg,afo5,hb])
 refine ops1C.mono ?_
 rintro _ τ2 ⟨rfl,hτ⟩
 have hg2:=(congrArg (fun s=>AStore.get s σ.next) hτ).trans (get_alloc_old (gss (by omega)))
 have hn2:τ2.next=σ.next+3:=by rw [hτ]; simp only [set_next,alloc_next,hn]
 have hk2:KeepS σ τ2:=by rw [hτ]; exact (hk.set (Nat.le_refl _) _).trans (KeepS.alloc _ _)
 have hd2:τ2.get (σ.next+1)=some (.cells 1 [.func (.func 45) [] []]):=by rw [hτ]; exact get_alloc_old (by rw [AStore.get_set,if_neg (by omega)]; exact hd)
 have hr2:τ2.get (σ.next+2)=some (.cells 1 [.func (.func 46) [] []]):=by rw [hτ,AStore.get_alloc,if_pos (by simp only [set_next,hn])]
 have hlt2:σ.next < τ2.next:=by omega
 simp only [set_next,hn]
 clear hτ
 (repeat' first|refine vw ?_ ?_<;>intro hq|refine vz ?_|simp -implicitDefEqProofs only [go_sem,hms,msAt_map,Option.map_some,List.nil_append,List.cons_append,List.append_assoc,hg2,afo6,afo7,afo8,afo9,afo10,afo11,afo12,hlt2])
 refine ⟨?_,σ.next+1,σ.next+2,gss (by simp only [set_next]; omega),?_,?_⟩
 ·exact (((((((hk2.set (Nat.le_refl _) _).set (Nat.le_refl _) _).set (Nat.le_refl _) _).set (Nat.le_refl _) _).set (Nat.le_refl _) _).set (Nat.le_refl _) _).set (Nat.le_refl _) _)
 ·simp only [AStore.get_set,set_next,if_neg (show ¬ (σ.next+1=σ.next/\σ.next < τ2.next) by omega)]; exact hd2
 ·simp only [AStore.get_set,set_next,if_neg (show ¬ (σ.next+2=σ.next/\σ.next < τ2.next) by omega)]; exact hr2
theorem opdC {w:WD} {f:FuncId} {σ:AStore} {b1:Nat} {a b r:Int} (hf:(EE w).fns f=true) (hg:σ.get b1=some (.cells 1 [.func (.func f) [] []])) (hC:b≠0->GivesV (EE ⟨w.w,[]⟩) f [(.sc (.int .i64 (a))),(.sc (.int .i64 (b)))] (.sc (.int .i64 (r)))):
  ACalls (EE w) 38 [(.sc (.int .i64 (a))),(.sc (.int .i64 (b))),.ptr b1 0 0] σ fun e σ'=>σ'=σ/\e=if b=0 then .pan (endA 100) else .ret (.sc (.int .i64 (r))):=by
 have hf':(EE ⟨w.w,[]⟩).fns f=true:=hf
 refine of_38 rfl rfl rfl (by kernel_rfl) ?_
 by_cases h:b=0
 ·(repeat' first|refine vw ?_ ?_<;>intro hq|refine vz ?_|simp -implicitDefEqProofs only [go_sem,dct h])
  rw [if_pos h]; rfl
 ·(repeat' first|refine vw ?_ ?_<;>intro hq|refine vz ?_|simp -implicitDefEqProofs only [go_sem,dcf h,hg,hf'])
  refine (hC h).use ?_
  (repeat' first|refine vw ?_ ?_<;>intro hq|refine vz ?_|simp -implicitDefEqProofs only [go_sem])
  rw [if_neg h]
theorem opAllC {w:WD} {σ:AStore} {bo b1 b2:Nat} (ho:OpsM σ bo b1 b2) {k a b:Int} (h1:3<=k) (h2:k<=15) (ha:-2147483648<=a/\a<=2147483648) (hb:-2147483648<=b/\b<=2147483648):
  ACalls (EE w) (opN k) ([(.sc (.int .i64 (a))),(.sc (.int .i64 (b)))]++opC b1 b2 k) σ fun e σ'=>σ'=σ/\e=if (k=8\/k=9)/\b=0 then .pan (endA 100) else .ret (.sc (.int .i64 (opV k a b))):=by
 have go:∀ {f:FuncId} {v:Int},GivesV (EE w) f [(.sc (.int .i64 (a))),(.sc (.int .i64 (b)))] (.sc (.int .i64 (v)))->ACalls (EE w) f [(.sc (.int .i64 (a))),(.sc (.int .i64 (b)))] σ fun e σ'=>σ'=σ/\e=.ret (.sc (.int .i64 (v))):=fun h=>h σ
 rcases op_cases h1 h2 with rfl|rfl|rfl|rfl|rfl|rfl|rfl|rfl|rfl|rfl|rfl|rfl|rfl
 ·exact go (op3C ha hb)
 ·exact go op4C
 ·exact go (op5C ha hb)
 ·exact go (op6C ha hb)
 ·exact go (op7C ha hb)
 ·refine (opdC (a:=a) (b:=b) (r:=a.tdiv b) (by kernel_rfl) ho.d fun h=>opd0C h ha hb).mono ?_
  rintro e σ' ⟨rfl,rfl⟩
  exact ⟨rfl,by by_cases h:b=0<;>simp [h,opV]⟩
 ·refine (opdC (a:=a) (b:=b) (r:=a.tmod b) (by kernel_rfl) ho.r fun h=>opd1C h ha hb).mono ?_
  rintro e σ' ⟨rfl,rfl⟩
  exact ⟨rfl,by by_cases h:b=0<;>simp [h,opV]⟩
 ·exact go op10C
 ·exact go op11C
 ·exact go op12C
 ·exact go op13C
 ·exact go op14C
 ·exact go op15C
section
variable {E:Env} {K:Md->Ev->AStore->Prop} {md:Md} {e:Ev} {σ:AStore} {k:Md->Ev->AStore->Prop}
end
attribute [go_sem] opBin_neI opBin_neN
section
variable {eM eR:Int} {g:ByteArray->Int} {x y z:Ex} {a b c i:Int} {nm:ByteArray}
end
mutual
def exA:Ex->AVal
 | .mk k nm i zs=>.agg [(.sc (.int .i64 (k))),.sc (.string nm),(.sc (.int .i64 (i))),exS zs]
def exS:List Ex->AVal
 | []=>(.sc (.slice none 0 0))
 | x::xs=>.data 4 (decide (xs.length=2)) (exA x::exAs xs)
def exAs:List Ex->List AVal
 | []=>[]
 | x::xs=>exA x::exAs xs
end
mutual
def szX:Ex->Bool
 | .mk k nm i zs=>decide (0<=k) && decide (k<=100) && decide (0<=i) && decide (i<=1000) && decide (nm.size<=100) && decide (zs.length<=100) && szXs zs
def szXs:List Ex->Bool
 | []=>true
 | x::xs=>szX x && szXs xs
end
mutual
theorem exA_is:∀ {x:Ex},szX x=true->IsEx x (exA x)
  | .mk k nm i zs, h => by
      simp only [szX,Bool.and_eq_true,decide_eq_true_eq] at h
      obtain ⟨⟨⟨⟨⟨⟨h1,h2⟩,h3⟩,h4⟩,h5⟩,h6⟩,h7⟩:=h
      have hs:=exAs_is h7
      refine ⟨exS zs,exAs zs,rfl,?_,hs,⟨vom,vom⟩,⟨vom,vom⟩,vom,by have:=hs.len; omega⟩
      cases zs with
      | nil=>exact .inl ⟨rfl,_,_,rfl⟩
      | cons x xs=>exact .inr ⟨_,rfl⟩
theorem exAs_is:∀ {zs:List Ex},szXs zs=true->IsExs zs (exAs zs)
  | [],_=>rfl
  | x :: xs, h => by
      simp only [szXs,Bool.and_eq_true] at h
      exact ⟨_,_,rfl,exA_is h.1,exAs_is h.2⟩
end
end Abs
end
