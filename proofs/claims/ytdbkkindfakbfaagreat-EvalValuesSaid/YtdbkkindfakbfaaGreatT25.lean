/-
  Functions of the program walked: each is shown to compute a plain function (T25).
-/
import Derived.Test.YtdbkkindfakbfaaGreatT18
set_option linter.unusedSimpArgs false
set_option linter.unusedVariables false
set_option maxRecDepth 100000
set_option maxHeartbeats 16000000
noncomputable section
namespace Abs
open Go Go.Proofs
def argsI (k:Int):Int:=if k=1\/k=2 then 0 else if k=3\/k=4 then 1 else if 5<=k/\k<=17 then 2 else if k=18 then 3 else if k=19 then -1 else -2
theorem ret_int {σ:AStore} {n:Nat} {b c:Int} (h:b=c):∃ u,AEnd.ret (.sc (.int .i64 (b)))=AEnd.ret u/\frz σ (n+1) u=some (.sc (.int .i64 (c))):=⟨_,rfl,by rw [h]; rfl⟩
theorem argsRC {w:WD} (k:Int):GivesV (EE w) 107 [(.sc (.int .i64 (k)))] (.sc (.int .i64 (argsI k))):=by
 refine GivesV.of (fun _=>.sc _) (.cons _ _ (.sc _) .nil) 1 ?_
 refine of_107 rfl rfl rfl (by kernel_rfl) ?_
 (repeat' first|refine vw ?_ ?_<;>intro hq|refine vz ?_|simp -implicitDefEqProofs only [go_sem])
 all_goals (refine ret_int ?_; unfold argsI; repeat' split; all_goals first|rfl|omega)
def gA (k i:Int) (n:Nat):Bool:=arityB k n && ((decide (i=0) || decide (k=1)) && (decide (-2147483648<=i) && decide (i<=2147483648)))
def gB (k:Int) (nm:ByteArray):Bool:=if k=2\/k=19 then nameB nm else decide (nm.size=0)
theorem arity_args (k:Int) (n:Nat):arityB k n=!(decide (argsI k=-2) || (decide (0<=argsI k) && !decide ((n:Int)=argsI k))):=by
 rw [Bool.eq_iff_iff]
 unfold arityB argsI
 by_cases h1:k=1\/k=2
 ·simp only [if_pos h1]; simp
 by_cases h2:k=3\/k=4
 ·simp only [if_neg h1,if_pos h2]; simp; omega
 by_cases h3:5<=k/\k<=17
 ·simp only [if_neg h1,if_neg h2,if_pos h3]; simp; omega
 by_cases h4:k=18
 ·simp only [if_neg h1,if_neg h2,if_neg h3,if_pos h4]; simp; omega
 by_cases h5:k=19
 ·simp only [if_neg h1,if_neg h2,if_neg h3,if_neg h4,if_pos h5]; simp [h5]
 ·simp only [if_neg h1,if_neg h2,if_neg h3,if_neg h4,if_neg h5]; simp [h5]
theorem formedB_g {k i:Int} {nm:ByteArray} {xs:List Ex}:formedB nameB (.mk k nm i xs)=(gA k i xs.length && (gB k nm && formedBs nameB xs)):=by
 simp only [formedB,gA,gB,Bool.and_assoc]
 cases arityB k xs.length<;>simp
 split<;>simp [Bool.and_comm,Bool.and_left_comm,Bool.and_assoc]
theorem formedBs_take {xs:List Ex} {j:Nat} {x:Ex} (h:xs[j]?=some x) (h0:formedBs nameB (xs.take j)=true) (h1:formedB nameB x=true):formedBs nameB (xs.take (j+1))=true:=by
 rw [formedBs_all] at h0 ⊢
 obtain ⟨hj,he⟩:=List.getElem?_eq_some_iff.1 h
 rw [List.take_succ_eq_append_getElem hj,List.all_append,h0,he]
 simp [h1]
theorem formedBs_bad {xs:List Ex} {j:Nat} {x:Ex} (h:xs[j]?=some x) (h1:formedB nameB x=false):formedBs nameB xs=false:=by
 rw [formedBs_all,List.all_eq_false]
 exact ⟨x,List.mem_of_getElem? h,by simp [h1]⟩
theorem formedRStep {k i:Int} {nm:ByteArray} {xs:List Ex} {w:WD} {v:AVal} (h:IsEx (.mk k nm i xs) v) (rec:∀ y∈xs,∀ (w:WD) (v:AVal),IsEx y v->GivesV (EE w) 83 [v] (.sc (.bool (formedB nameB y)))):
  GivesV (EE w) 83 [v] (.sc (.bool (formedB nameB (.mk k nm i xs)))):=by
 have hwf:=h.wf
 simp only [IsEx] at h
 obtain ⟨S,els,rfl,hS,hx,hk,hi,hn,hl⟩:=h
 have hlen:=hx.len
 have hSn:=fun σ:AStore=>hS.lenN hlen (σ:=σ)
 have kS:=hS.fit
 have cS:=hS.cells
 have iS:=hS.isCell
 rw [formedB_g]
 refine GivesV.of (fun _=>.sc _) (.cons _ _ hwf .nil) 1 ?_
 refine of_83 rfl rfl rfl (by kernel_rfl) ?_
 simp -implicitDefEqProofs only [go_sem,kS,cS,iS]
 refine (argsRC _).use ?_
 have g0:(empty.alloc (.cells 4 [.agg [(.sc (.int .i64 (k))),.sc (.string nm),(.sc (.int .i64 (i))),S]])).get 0=some (.cells 4 [.agg [(.sc (.int .i64 (k))),.sc (.string nm),(.sc (.int .i64 (i))),S]]):=by rw [AStore.get_alloc]; rfl
 generalize empty.alloc (.cells 4 [.agg [(.sc (.int .i64 (k))),.sc (.string nm),(.sc (.int .i64 (i))),S]])=τ at g0 ⊢
 have har:=arity_args k xs.length
 by_cases hgA:gA k i xs.length=true
 ·have hgA':=hgA
  simp only [gA,har,Bool.and_eq_true,Bool.not_eq_true',Bool.or_eq_false_iff,Bool.and_eq_false_iff,Bool.or_eq_true,decide_eq_true_eq,decide_eq_false_iff_not,Bool.not_eq_false'] at hgA'
  obtain ⟨⟨u1,u2⟩,u3,u4,u5⟩:=hgA'
  rw [hgA,Bool.true_and]
  (repeat' first|refine vw ?_ ?_<;>intro hq|refine vz ?_|simp -implicitDefEqProofs only [go_sem,g0,hSn])
  ·have hB:gB k nm=decide (nm.size=0):=if_neg (by omega)
   rw [hB,<-nm_empty]
   by_cases hn0:nm=⟨#[]⟩
   ·rw [dct hn0,Bool.true_and]
    (repeat' first|refine vw ?_ ?_<;>intro hq|refine vz ?_|simp -implicitDefEqProofs only [go_sem,ba_list,dct hn0])
    refine vlp (ι:=Nat) (fun j=>[(1,.ptr 0 0 0),(5,(.sc (.int .i64 (j))))]) (fun j τ=>j<=xs.length/\τ.get 0=some (.cells 4 [.agg [(.sc (.int .i64 (k))),.sc (.string nm),(.sc (.int .i64 (i))),S]])/\formedBs nameB (xs.take j)=true) (fun j=>xs.length - j) (fun _=>rfl) 0 ?_ ?_ ?_
    ·exact vsu
    ·exact ⟨Nat.zero_le _,g0,rfl⟩
    rintro j τ' ⟨hj,g1,h0⟩
    simp -implicitDefEqProofs only [go_sem,g1,hSn]
    (refine vif ?_ ?_<;>intro hlt)
    ·obtain ⟨x,hx1⟩:∃ x,xs[j]?=some x:=⟨xs[j]'(by omega),by simp⟩
     obtain ⟨e,he,hxe⟩:=hx.at hx1
     obtain ⟨c1,c2,c3⟩:=hxe.isA.facts
     have hw:=wrapS (i:=j) (by omega)
     (repeat' first|refine vw ?_ ?_<;>intro hq|refine vz ?_|simp -implicitDefEqProofs only [go_sem,g1,hS.idx he,c1,c2,c3])
     refine (rec x (List.mem_of_getElem? hx1) _ e hxe).use ?_
     cases hb:formedB nameB x with
     | false=>
      (repeat' first|refine vw ?_ ?_<;>intro hq|refine vz ?_|simp -implicitDefEqProofs only [go_sem,hb])
      exact ret_bool (formedBs_bad hx1 hb).symm
     | true=>
      (repeat' first|refine vw ?_ ?_<;>intro hq|refine vz ?_|simp -implicitDefEqProofs only [go_sem,hb,hw])
      exact ⟨j+1,vom,⟨vom,g1,formedBs_take hx1 h0 hb⟩,vsu⟩
    ·obtain rfl:j=xs.length:=by omega
     rw [List.take_length] at h0
     (repeat' first|refine vw ?_ ?_<;>intro hq|refine vz ?_|simp -implicitDefEqProofs only [go_sem])
     exact ret_bool h0.symm
   ·(repeat' first|refine vw ?_ ?_<;>intro hq|refine vz ?_|simp -implicitDefEqProofs only [go_sem,ba_list,dcf hn0])
    exact ret_bool rfl
  ·refine (nameRC nm).use ?_
   have hB:gB k nm=nameB nm:=if_pos (by omega)
   rw [hB]
   generalize nameB nm=nb
   cases nb with
   | false=>
    (repeat' first|refine vw ?_ ?_<;>intro hq|refine vz ?_|simp -implicitDefEqProofs only [go_sem,g0])
    exact ret_bool rfl
   | true=>
    rw [Bool.true_and]
    (repeat' first|refine vw ?_ ?_<;>intro hq|refine vz ?_|simp -implicitDefEqProofs only [go_sem,g0,hSn])
    refine vlp (ι:=Nat) (fun j=>[(1,.ptr 0 0 0),(5,(.sc (.int .i64 (j))))]) (fun j τ=>j<=xs.length/\τ.get 0=some (.cells 4 [.agg [(.sc (.int .i64 (k))),.sc (.string nm),(.sc (.int .i64 (i))),S]])/\formedBs nameB (xs.take j)=true) (fun j=>xs.length - j) (fun _=>rfl) 0 ?_ ?_ ?_
    ·exact vsu
    ·exact ⟨Nat.zero_le _,g0,rfl⟩
    rintro j τ' ⟨hj,g1,h0⟩
    simp -implicitDefEqProofs only [go_sem,g1,hSn]
    (refine vif ?_ ?_<;>intro hlt)
    ·obtain ⟨x,hx1⟩:∃ x,xs[j]?=some x:=⟨xs[j]'(by omega),by simp⟩
     obtain ⟨e,he,hxe⟩:=hx.at hx1
     obtain ⟨c1,c2,c3⟩:=hxe.isA.facts
     have hw:=wrapS (i:=j) (by omega)
     (repeat' first|refine vw ?_ ?_<;>intro hq|refine vz ?_|simp -implicitDefEqProofs only [go_sem,g1,hS.idx he,c1,c2,c3])
     refine (rec x (List.mem_of_getElem? hx1) _ e hxe).use ?_
     cases hb:formedB nameB x with
     | false=>
      (repeat' first|refine vw ?_ ?_<;>intro hq|refine vz ?_|simp -implicitDefEqProofs only [go_sem,hb])
      exact ret_bool (formedBs_bad hx1 hb).symm
     | true=>
      (repeat' first|refine vw ?_ ?_<;>intro hq|refine vz ?_|simp -implicitDefEqProofs only [go_sem,hb,hw])
      exact ⟨j+1,vom,⟨vom,g1,formedBs_take hx1 h0 hb⟩,vsu⟩
    ·obtain rfl:j=xs.length:=by omega
     rw [List.take_length] at h0
     (repeat' first|refine vw ?_ ?_<;>intro hq|refine vz ?_|simp -implicitDefEqProofs only [go_sem])
     exact ret_bool h0.symm
  ·have hB:gB k nm=decide (nm.size=0):=if_neg (by omega)
   rw [hB,<-nm_empty]
   by_cases hn0:nm=⟨#[]⟩
   ·rw [dct hn0,Bool.true_and]
    (repeat' first|refine vw ?_ ?_<;>intro hq|refine vz ?_|simp -implicitDefEqProofs only [go_sem,ba_list,dct hn0])
    refine vlp (ι:=Nat) (fun j=>[(1,.ptr 0 0 0),(5,(.sc (.int .i64 (j))))]) (fun j τ=>j<=xs.length/\τ.get 0=some (.cells 4 [.agg [(.sc (.int .i64 (k))),.sc (.string nm),(.sc (.int .i64 (i))),S]])/\formedBs nameB (xs.take j)=true) (fun j=>xs.length - j) (fun _=>rfl) 0 ?_ ?_ ?_
    ·exact vsu
    ·exact ⟨Nat.zero_le _,g0,rfl⟩
    rintro j τ' ⟨hj,g1,h0⟩
    simp -implicitDefEqProofs only [go_sem,g1,hSn]
    (refine vif ?_ ?_<;>intro hlt)
    ·obtain ⟨x,hx1⟩:∃ x,xs[j]?=some x:=⟨xs[j]'(by omega),by simp⟩
     obtain ⟨e,he,hxe⟩:=hx.at hx1
     obtain ⟨c1,c2,c3⟩:=hxe.isA.facts
     have hw:=wrapS (i:=j) (by omega)
     (repeat' first|refine vw ?_ ?_<;>intro hq|refine vz ?_|simp -implicitDefEqProofs only [go_sem,g1,hS.idx he,c1,c2,c3])
     refine (rec x (List.mem_of_getElem? hx1) _ e hxe).use ?_
     cases hb:formedB nameB x with
     | false=>
      (repeat' first|refine vw ?_ ?_<;>intro hq|refine vz ?_|simp -implicitDefEqProofs only [go_sem,hb])
      exact ret_bool (formedBs_bad hx1 hb).symm
     | true=>
      (repeat' first|refine vw ?_ ?_<;>intro hq|refine vz ?_|simp -implicitDefEqProofs only [go_sem,hb,hw])
      exact ⟨j+1,vom,⟨vom,g1,formedBs_take hx1 h0 hb⟩,vsu⟩
    ·obtain rfl:j=xs.length:=by omega
     rw [List.take_length] at h0
     (repeat' first|refine vw ?_ ?_<;>intro hq|refine vz ?_|simp -implicitDefEqProofs only [go_sem])
     exact ret_bool h0.symm
   ·(repeat' first|refine vw ?_ ?_<;>intro hq|refine vz ?_|simp -implicitDefEqProofs only [go_sem,ba_list,dcf hn0])
    exact ret_bool rfl
  ·refine (nameRC nm).use ?_
   have hB:gB k nm=nameB nm:=if_pos (by omega)
   rw [hB]
   generalize nameB nm=nb
   cases nb with
   | false=>
    (repeat' first|refine vw ?_ ?_<;>intro hq|refine vz ?_|simp -implicitDefEqProofs only [go_sem,g0])
    exact ret_bool rfl
   | true=>
    rw [Bool.true_and]
    (repeat' first|refine vw ?_ ?_<;>intro hq|refine vz ?_|simp -implicitDefEqProofs only [go_sem,g0,hSn])
    refine vlp (ι:=Nat) (fun j=>[(1,.ptr 0 0 0),(5,(.sc (.int .i64 (j))))]) (fun j τ=>j<=xs.length/\τ.get 0=some (.cells 4 [.agg [(.sc (.int .i64 (k))),.sc (.string nm),(.sc (.int .i64 (i))),S]])/\formedBs nameB (xs.take j)=true) (fun j=>xs.length - j) (fun _=>rfl) 0 ?_ ?_ ?_
    ·exact vsu
    ·exact ⟨Nat.zero_le _,g0,rfl⟩
    rintro j τ' ⟨hj,g1,h0⟩
    simp -implicitDefEqProofs only [go_sem,g1,hSn]
    (refine vif ?_ ?_<;>intro hlt)
    ·obtain ⟨x,hx1⟩:∃ x,xs[j]?=some x:=⟨xs[j]'(by omega),by simp⟩
     obtain ⟨e,he,hxe⟩:=hx.at hx1
     obtain ⟨c1,c2,c3⟩:=hxe.isA.facts
     have hw:=wrapS (i:=j) (by omega)
     (repeat' first|refine vw ?_ ?_<;>intro hq|refine vz ?_|simp -implicitDefEqProofs only [go_sem,g1,hS.idx he,c1,c2,c3])
     refine (rec x (List.mem_of_getElem? hx1) _ e hxe).use ?_
     cases hb:formedB nameB x with
     | false=>
      (repeat' first|refine vw ?_ ?_<;>intro hq|refine vz ?_|simp -implicitDefEqProofs only [go_sem,hb])
      exact ret_bool (formedBs_bad hx1 hb).symm
     | true=>
      (repeat' first|refine vw ?_ ?_<;>intro hq|refine vz ?_|simp -implicitDefEqProofs only [go_sem,hb,hw])
      exact ⟨j+1,vom,⟨vom,g1,formedBs_take hx1 h0 hb⟩,vsu⟩
    ·obtain rfl:j=xs.length:=by omega
     rw [List.take_length] at h0
     (repeat' first|refine vw ?_ ?_<;>intro hq|refine vz ?_|simp -implicitDefEqProofs only [go_sem])
     exact ret_bool h0.symm
  ·have hB:gB k nm=decide (nm.size=0):=if_neg (by omega)
   rw [hB,<-nm_empty]
   by_cases hn0:nm=⟨#[]⟩
   ·rw [dct hn0,Bool.true_and]
    (repeat' first|refine vw ?_ ?_<;>intro hq|refine vz ?_|simp -implicitDefEqProofs only [go_sem,ba_list,dct hn0])
    refine vlp (ι:=Nat) (fun j=>[(1,.ptr 0 0 0),(5,(.sc (.int .i64 (j))))]) (fun j τ=>j<=xs.length/\τ.get 0=some (.cells 4 [.agg [(.sc (.int .i64 (k))),.sc (.string nm),(.sc (.int .i64 (i))),S]])/\formedBs nameB (xs.take j)=true) (fun j=>xs.length - j) (fun _=>rfl) 0 ?_ ?_ ?_
    ·exact vsu
    ·exact ⟨Nat.zero_le _,g0,rfl⟩
    rintro j τ' ⟨hj,g1,h0⟩
    simp -implicitDefEqProofs only [go_sem,g1,hSn]
    (refine vif ?_ ?_<;>intro hlt)
    ·obtain ⟨x,hx1⟩:∃ x,xs[j]?=some x:=⟨xs[j]'(by omega),by simp⟩
     obtain ⟨e,he,hxe⟩:=hx.at hx1
     obtain ⟨c1,c2,c3⟩:=hxe.isA.facts
     have hw:=wrapS (i:=j) (by omega)
     (repeat' first|refine vw ?_ ?_<;>intro hq|refine vz ?_|simp -implicitDefEqProofs only [go_sem,g1,hS.idx he,c1,c2,c3])
     refine (rec x (List.mem_of_getElem? hx1) _ e hxe).use ?_
     cases hb:formedB nameB x with
     | false=>
      (repeat' first|refine vw ?_ ?_<;>intro hq|refine vz ?_|simp -implicitDefEqProofs only [go_sem,hb])
      exact ret_bool (formedBs_bad hx1 hb).symm
     | true=>
      (repeat' first|refine vw ?_ ?_<;>intro hq|refine vz ?_|simp -implicitDefEqProofs only [go_sem,hb,hw])
      exact ⟨j+1,vom,⟨vom,g1,formedBs_take hx1 h0 hb⟩,vsu⟩
    ·obtain rfl:j=xs.length:=by omega
     rw [List.take_length] at h0
     (repeat' first|refine vw ?_ ?_<;>intro hq|refine vz ?_|simp -implicitDefEqProofs only [go_sem])
     exact ret_bool h0.symm
   ·(repeat' first|refine vw ?_ ?_<;>intro hq|refine vz ?_|simp -implicitDefEqProofs only [go_sem,ba_list,dcf hn0])
    exact ret_bool rfl
  ·refine (nameRC nm).use ?_
   have hB:gB k nm=nameB nm:=if_pos (by omega)
   rw [hB]
   generalize nameB nm=nb
   cases nb with
   | false=>
    (repeat' first|refine vw ?_ ?_<;>intro hq|refine vz ?_|simp -implicitDefEqProofs only [go_sem,g0])
    exact ret_bool rfl
   | true=>
    rw [Bool.true_and]
    (repeat' first|refine vw ?_ ?_<;>intro hq|refine vz ?_|simp -implicitDefEqProofs only [go_sem,g0,hSn])
    refine vlp (ι:=Nat) (fun j=>[(1,.ptr 0 0 0),(5,(.sc (.int .i64 (j))))]) (fun j τ=>j<=xs.length/\τ.get 0=some (.cells 4 [.agg [(.sc (.int .i64 (k))),.sc (.string nm),(.sc (.int .i64 (i))),S]])/\formedBs nameB (xs.take j)=true) (fun j=>xs.length - j) (fun _=>rfl) 0 ?_ ?_ ?_
    ·exact vsu
    ·exact ⟨Nat.zero_le _,g0,rfl⟩
    rintro j τ' ⟨hj,g1,h0⟩
    simp -implicitDefEqProofs only [go_sem,g1,hSn]
    (refine vif ?_ ?_<;>intro hlt)
    ·obtain ⟨x,hx1⟩:∃ x,xs[j]?=some x:=⟨xs[j]'(by omega),by simp⟩
     obtain ⟨e,he,hxe⟩:=hx.at hx1
     obtain ⟨c1,c2,c3⟩:=hxe.isA.facts
     have hw:=wrapS (i:=j) (by omega)
     (repeat' first|refine vw ?_ ?_<;>intro hq|refine vz ?_|simp -implicitDefEqProofs only [go_sem,g1,hS.idx he,c1,c2,c3])
     refine (rec x (List.mem_of_getElem? hx1) _ e hxe).use ?_
     cases hb:formedB nameB x with
     | false=>
      (repeat' first|refine vw ?_ ?_<;>intro hq|refine vz ?_|simp -implicitDefEqProofs only [go_sem,hb])
      exact ret_bool (formedBs_bad hx1 hb).symm
     | true=>
      (repeat' first|refine vw ?_ ?_<;>intro hq|refine vz ?_|simp -implicitDefEqProofs only [go_sem,hb,hw])
      exact ⟨j+1,vom,⟨vom,g1,formedBs_take hx1 h0 hb⟩,vsu⟩
    ·obtain rfl:j=xs.length:=by omega
     rw [List.take_length] at h0
     (repeat' first|refine vw ?_ ?_<;>intro hq|refine vz ?_|simp -implicitDefEqProofs only [go_sem])
     exact ret_bool h0.symm
  ·have hB:gB k nm=decide (nm.size=0):=if_neg (by omega)
   rw [hB,<-nm_empty]
   by_cases hn0:nm=⟨#[]⟩
   ·rw [dct hn0,Bool.true_and]
    (repeat' first|refine vw ?_ ?_<;>intro hq|refine vz ?_|simp -implicitDefEqProofs only [go_sem,ba_list,dct hn0])
    refine vlp (ι:=Nat) (fun j=>[(1,.ptr 0 0 0),(5,(.sc (.int .i64 (j))))]) (fun j τ=>j<=xs.length/\τ.get 0=some (.cells 4 [.agg [(.sc (.int .i64 (k))),.sc (.string nm),(.sc (.int .i64 (i))),S]])/\formedBs nameB (xs.take j)=true) (fun j=>xs.length - j) (fun _=>rfl) 0 ?_ ?_ ?_
    ·exact vsu
    ·exact ⟨Nat.zero_le _,g0,rfl⟩
    rintro j τ' ⟨hj,g1,h0⟩
    simp -implicitDefEqProofs only [go_sem,g1,hSn]
    (refine vif ?_ ?_<;>intro hlt)
    ·obtain ⟨x,hx1⟩:∃ x,xs[j]?=some x:=⟨xs[j]'(by omega),by simp⟩
     obtain ⟨e,he,hxe⟩:=hx.at hx1
     obtain ⟨c1,c2,c3⟩:=hxe.isA.facts
     have hw:=wrapS (i:=j) (by omega)
     (repeat' first|refine vw ?_ ?_<;>intro hq|refine vz ?_|simp -implicitDefEqProofs only [go_sem,g1,hS.idx he,c1,c2,c3])
     refine (rec x (List.mem_of_getElem? hx1) _ e hxe).use ?_
     cases hb:formedB nameB x with
     | false=>
      (repeat' first|refine vw ?_ ?_<;>intro hq|refine vz ?_|simp -implicitDefEqProofs only [go_sem,hb])
      exact ret_bool (formedBs_bad hx1 hb).symm
     | true=>
      (repeat' first|refine vw ?_ ?_<;>intro hq|refine vz ?_|simp -implicitDefEqProofs only [go_sem,hb,hw])
      exact ⟨j+1,vom,⟨vom,g1,formedBs_take hx1 h0 hb⟩,vsu⟩
    ·obtain rfl:j=xs.length:=by omega
     rw [List.take_length] at h0
     (repeat' first|refine vw ?_ ?_<;>intro hq|refine vz ?_|simp -implicitDefEqProofs only [go_sem])
     exact ret_bool h0.symm
   ·(repeat' first|refine vw ?_ ?_<;>intro hq|refine vz ?_|simp -implicitDefEqProofs only [go_sem,ba_list,dcf hn0])
    exact ret_bool rfl
  ·refine (nameRC nm).use ?_
   have hB:gB k nm=nameB nm:=if_pos (by omega)
   rw [hB]
   generalize nameB nm=nb
   cases nb with
   | false=>
    (repeat' first|refine vw ?_ ?_<;>intro hq|refine vz ?_|simp -implicitDefEqProofs only [go_sem,g0])
    exact ret_bool rfl
   | true=>
    rw [Bool.true_and]
    (repeat' first|refine vw ?_ ?_<;>intro hq|refine vz ?_|simp -implicitDefEqProofs only [go_sem,g0,hSn])
    refine vlp (ι:=Nat) (fun j=>[(1,.ptr 0 0 0),(5,(.sc (.int .i64 (j))))]) (fun j τ=>j<=xs.length/\τ.get 0=some (.cells 4 [.agg [(.sc (.int .i64 (k))),.sc (.string nm),(.sc (.int .i64 (i))),S]])/\formedBs nameB (xs.take j)=true) (fun j=>xs.length - j) (fun _=>rfl) 0 ?_ ?_ ?_
    ·exact vsu
    ·exact ⟨Nat.zero_le _,g0,rfl⟩
    rintro j τ' ⟨hj,g1,h0⟩
    simp -implicitDefEqProofs only [go_sem,g1,hSn]
    (refine vif ?_ ?_<;>intro hlt)
    ·obtain ⟨x,hx1⟩:∃ x,xs[j]?=some x:=⟨xs[j]'(by omega),by simp⟩
     obtain ⟨e,he,hxe⟩:=hx.at hx1
     obtain ⟨c1,c2,c3⟩:=hxe.isA.facts
     have hw:=wrapS (i:=j) (by omega)
     (repeat' first|refine vw ?_ ?_<;>intro hq|refine vz ?_|simp -implicitDefEqProofs only [go_sem,g1,hS.idx he,c1,c2,c3])
     refine (rec x (List.mem_of_getElem? hx1) _ e hxe).use ?_
     cases hb:formedB nameB x with
     | false=>
      (repeat' first|refine vw ?_ ?_<;>intro hq|refine vz ?_|simp -implicitDefEqProofs only [go_sem,hb])
      exact ret_bool (formedBs_bad hx1 hb).symm
     | true=>
      (repeat' first|refine vw ?_ ?_<;>intro hq|refine vz ?_|simp -implicitDefEqProofs only [go_sem,hb,hw])
      exact ⟨j+1,vom,⟨vom,g1,formedBs_take hx1 h0 hb⟩,vsu⟩
    ·obtain rfl:j=xs.length:=by omega
     rw [List.take_length] at h0
     (repeat' first|refine vw ?_ ?_<;>intro hq|refine vz ?_|simp -implicitDefEqProofs only [go_sem])
     exact ret_bool h0.symm
 ·have hno:¬ (¬ argsI k=-2/\(0<=argsI k->(xs.length:Int)=argsI k)/\(i=0\/k=1)/\-2147483648<=i/\i<=2147483648):=by
   intro hc
   apply hgA
   simp only [gA,har,Bool.and_eq_true,Bool.not_eq_true',Bool.or_eq_false_iff,Bool.and_eq_false_iff,Bool.or_eq_true,decide_eq_true_eq,decide_eq_false_iff_not,Bool.not_eq_false']
   omega
  have hgF:gA k i xs.length=false:=by simpa using hgA
  rw [hgF,Bool.false_and]
  (repeat' first|refine vw ?_ ?_<;>intro hq|refine vz ?_|simp -implicitDefEqProofs only [go_sem,g0,hSn])
  all_goals exact ret_bool rfl
theorem formedRC:∀ {x:Ex} {w:WD} {v:AVal},IsEx x v->GivesV (EE w) 83 [v] (.sc (.bool (formedB nameB x)))
 | .mk _ _ _ xs,_,_,h=>formedRStep h fun y hy _ _ h'=>formedRC (x:=y) h'
termination_by x=>sizeOf x
decreasing_by have:=List.sizeOf_lt_of_mem hy; simp only [Ex.mk.sizeOf_spec]; omega
def mT (n d:Nat) (w:Bool):AVal:=.tuple [(.sc (.int .i64 (n))),(.sc (.int .i64 (d))),(.sc (.bool (w)))]
theorem sizeRStep {k i:Int} {nm:ByteArray} {xs:List Ex} {w:WD} {v:AVal} (h:IsEx (.mk k nm i xs) v) (hb:nodesE (.mk k nm i xs)<=1099511627776) (rec:∀ y∈xs,∀ (w:WD) (v:AVal),IsEx y v->GivesV (EE w) 75 [v] (mT (nodesE y) (depthE y) (fewE y))):
  GivesV (EE w) 75 [v] (mT (nodesE (.mk k nm i xs)) (depthE (.mk k nm i xs)) (fewE (.mk k nm i xs))):=by
 have hwf:=h.wf
 simp only [IsEx] at h
 obtain ⟨S,els,rfl,hS,hx,hk,hi,hn,hl⟩:=h
 have hlen:=hx.len
 have hSn:=fun σ:AStore=>hS.lenN hlen (σ:=σ)
 have kS:=hS.fit
 have cS:=hS.cells
 have iS:=hS.isCell
 have hbs:nodesEs xs<=1099511627776:=by simp only [nodesE] at hb; omega
 have hdn:=depth_nodesEs xs
 refine GivesV.of (fun _=>.sc _) (.cons _ _ hwf .nil) 2 ?_
 refine of_75 rfl rfl rfl (by kernel_rfl) ?_
 simp -implicitDefEqProofs only [go_sem,kS,cS,iS]
 have g0:(empty.alloc (.cells 4 [.agg [(.sc (.int .i64 (k))),.sc (.string nm),(.sc (.int .i64 (i))),S]])).get 0=some (.cells 4 [.agg [(.sc (.int .i64 (k))),.sc (.string nm),(.sc (.int .i64 (i))),S]]):=by rw [AStore.get_alloc]; rfl
 generalize empty.alloc (.cells 4 [.agg [(.sc (.int .i64 (k))),.sc (.string nm),(.sc (.int .i64 (i))),S]])=τ at g0 ⊢
 ((try (refine Z_seq ?_; (try simp -implicitDefEqProofs only [go_sem]))); refine Z_draw (by kernel_rfl) [0,1,2,3,4,5,6] [(6,63),(5,16),(4,0),(3,7),(2,3),(1,1),(0,0)] (by kernel_rfl) (by kernel_rfl) ?_)
 have hd4:decide ((xs.length:Int)<=4)=decide (xs.length<=4):=by (rw [Bool.eq_iff_iff]; simp only [Bool.or_eq_true,Bool.and_eq_true,Bool.not_eq_true',decide_eq_true_eq,decide_eq_false_iff_not,Bool.true_eq_false,Bool.false_eq_true,iff_true,true_iff,iff_false,false_iff]; omega)
 simp -implicitDefEqProofs only [go_sem,g0,hSn,hd4]
 refine vlp (ι:=Nat) (fun j=>[(1,.ptr 0 0 0),(5,(.sc (.int .i64 (1+nodesEs (xs.take j))))),(6,(.sc (.int .i64 (depthEs (xs.take j))))),(7,(.sc (.bool (decide (xs.length<=4) && fewEs (xs.take j))))),(8,(.sc (.int .i64 (j))))]) (fun j τ=>j<=xs.length/\τ.get 0=some (.cells 4 [.agg [(.sc (.int .i64 (k))),.sc (.string nm),(.sc (.int .i64 (i))),S]])) (fun j=>xs.length - j) (fun _=>rfl) 0 ?_ ?_ ?_
 ·simp [subE,look?,nodesEs,depthEs,fewEs]
 ·exact ⟨Nat.zero_le _,g0⟩
 rintro j τ' ⟨hj,g1⟩
 simp -implicitDefEqProofs only [go_sem,g1,hSn]
 (refine vif ?_ ?_<;>intro hlt)
 ·obtain ⟨x,hx1⟩:∃ x,xs[j]?=some x:=⟨xs[j]'(by omega),by simp⟩
  obtain ⟨e,he,hxe⟩:=hx.at hx1
  obtain ⟨c1,c2,c3⟩:=hxe.isA.facts
  have hw:=wrapS (i:=j) (by omega)
  (repeat' first|refine vw ?_ ?_<;>intro hq|refine vz ?_|simp -implicitDefEqProofs only [go_sem,g1,hS.idx he,c1,c2,c3])
  refine (rec x (List.mem_of_getElem? hx1) _ e hxe).use ?_
  have hn1:=nodesEs_take hx1
  have hd1:=depthEs_take hx1
  have hf1:=fewEs_take hx1
  have hn2:=nodesEs_le (l:=xs) (i:=j+1)
  have hwn:IntKind.i64.wrap (1+(nodesEs (xs.take j):Int)+(nodesE x:Int))=1+(nodesEs (xs.take (j+1)):Int):=by rw [wrap64 (by omega) (by omega)]; omega
  have hfe:(decide (xs.length<=4) && fewEs (xs.take (j+1)))=((decide (xs.length<=4) && fewEs (xs.take j)) && fewE x):=by rw [hf1,Bool.and_assoc]
  have hmx:=mx_nat (a:=depthEs (xs.take j)) (b:=depthE x)
  rw [<-hd1] at hmx
  cases hb0:(decide (xs.length<=4) && fewEs (xs.take j)) with
  | false=>
   rw [hb0,Bool.false_and] at hfe
   (repeat' first|refine vw ?_ ?_<;>intro hq|refine vz ?_|simp -implicitDefEqProofs only [go_sem,mT,hwn,hmx,hw])
   refine ⟨j+1,vom,⟨vom,g1⟩,?_⟩
   dsimp only
   rw [hfe]
   exact vsu
  | true=>
   rw [hb0,Bool.true_and] at hfe
   (repeat' first|refine vw ?_ ?_<;>intro hq|refine vz ?_|simp -implicitDefEqProofs only [go_sem,mT,hwn,hmx,hw])
   refine ⟨j+1,vom,⟨vom,g1⟩,?_⟩
   dsimp only
   rw [hfe]
   exact vsu
 ·obtain rfl:j=xs.length:=by omega
  have hwd:IntKind.i64.wrap ((depthEs xs:Int)+1)=1+(depthEs xs:Int):=by rw [wrap64 (by omega) (by omega)]; omega
  have ht:=List.take_length (l:=xs)
  (repeat' first|refine vw ?_ ?_<;>intro hq|refine vz ?_|simp -implicitDefEqProofs only [go_sem,ht,hwd])
  refine ⟨_,rfl,?_⟩
  simp only [nodesE,depthE,fewE,mT]
  rfl
theorem sizeRC:∀ {x:Ex} {w:WD} {v:AVal},IsEx x v->nodesE x<=1099511627776->GivesV (EE w) 75 [v] (mT (nodesE x) (depthE x) (fewE x))
  | .mk _ _ _ xs, _, _, h, hb => sizeRStep h hb fun y hy _ _ h' => sizeRC (x := y) h' (by
      obtain ⟨j,hj,rfl⟩:=List.mem_iff_getElem.1 hy
      have:=nodesE_at (List.getElem?_eq_getElem hj)
      simp only [nodesE] at hb; omega)
termination_by x=>sizeOf x
decreasing_by have:=List.sizeOf_lt_of_mem hy; simp only [Ex.mk.sizeOf_spec]; omega
theorem smallRC {x:Ex} {w:WD} {v:AVal} (h:IsEx x v) (hb:nodesE x<=1099511627776):GivesV (EE w) 36 [v] (.sc (.bool (smallE x))):=by
 obtain ⟨c1,c2,c3⟩:=h.isA.facts
 have cc:=h.cellsOk
 have hfit:v.fit=true:=by obtain ⟨cs,rfl,_⟩:=h.isA; rfl
 have hZ:=fun w:WD=>sizeRC (w:=w) h hb
 refine GivesV.of (fun _=>.sc _) (.cons _ _ h.wf .nil) 1 ?_
 refine of_36 rfl rfl rfl (by kernel_rfl) ?_
 simp -implicitDefEqProofs only [go_sem,c1,c2,c3,cc,hfit]
 refine (hZ _).use ?_
 (repeat' first|refine vw ?_ ?_<;>intro hq|refine vz ?_|simp -implicitDefEqProofs only [go_sem,mT])
 all_goals (refine ret_bool ?_; unfold smallE; first|(rw [dct (by omega:nodesE x<=400),dct (by omega:depthE x<=30)]; rfl)|(rw [dcf (by omega:¬ depthE x<=30)]; simp; done)|(rw [dcf (by omega:¬ nodesE x<=400)]; simp; done))
theorem sizesRStep {xs:List St} {w:WD} {L:AVal} {els:List AVal} (hL:IsD 8 L els) (hx:IsSts xs els) (hlen:els.length<=281474976710656) (hb:nodesSs xs<=1099511627776)
  (rec:∀ x∈xs,∀ (ys:List St),(∀ k nm v b e,x=.mk k nm v b e->ys=b\/ys=e)->∀ (w:WD) (L:AVal) (els:List AVal),IsD 8 L els->IsSts ys els->els.length<=281474976710656->nodesSs ys<=1099511627776->
   GivesV (EE w) 73 [L] (mT (nodesSs ys) (depthSs ys) (fewSs ys))):GivesV (EE w) 73 [L] (mT (nodesSs xs) (depthSs xs) (fewSs xs)):=by
 have hwf:=hL.wf hx.wf
 have hln:=hx.len
 have hLn:=fun σ:AStore=>hL.lenN hln (σ:=σ)
 have hdn:=depth_nodesSs xs
 refine GivesV.of (fun _=>.sc _) (.cons _ _ hwf .nil) 2 ?_
 refine of_73 rfl rfl rfl (by kernel_rfl) ?_
 simp -implicitDefEqProofs only [go_sem,hLn]
 refine vlp (ι:=Nat) (fun j=>[(0,L),(5,(.sc (.int .i64 (nodesSs (xs.take j))))),(6,(.sc (.int .i64 (depthSs (xs.take j))))),(7,(.sc (.bool (fewSs (xs.take j))))),(8,(.sc (.int .i64 (j))))]) (fun j _=>j<=xs.length) (fun j=>xs.length - j) (fun _=>rfl) 0 ?_ ?_ ?_
 ·simp [subE,look?,nodesSs,depthSs,fewSs]
 ·exact Nat.zero_le _
 rintro j τ hj
 simp -implicitDefEqProofs only [go_sem,hLn]
 (refine vif ?_ ?_<;>intro hlt)
 ·obtain ⟨x,hx1⟩:∃ x,xs[j]?=some x:=⟨xs[j]'(by omega),by simp⟩
  obtain ⟨e,he,hxe⟩:=hx.at hx1
  have hn1:=nodesSs_take hx1
  have hd1:=depthSs_take hx1
  have hf1:=fewSs_take hx1
  have hn2:=nodesSs_le (l:=xs) (i:=j+1)
  have hmem:=List.mem_of_getElem? hx1
  have hdx:=depth_nodesS x
  obtain ⟨k,nm,v,body,els'⟩:=x
  have cc:=hxe.cellsOk
  simp only [IsSt] at hxe
  obtain ⟨SA,SB,SE,ea,eb,ee,rfl,hA',ha,hB,hb',hE,hee,h1,h2,h3,h4,h5,h6,h7,h8⟩:=hxe
  have hvx:=ex_of hA' ha h2 h3 h5 h6
  have hnx:1+nodesE v+nodesSs body+nodesSs els'=nodesS (.mk k nm v body els'):=by simp [nodesS]
  have hZ:=fun w:WD=>sizeRC (w:=w) hvx (by omega)
  have rB:=fun w:WD=>rec _ hmem body (fun _ _ _ _ _ h=>by cases h; exact .inl rfl) w SB eb hB hb' h7 (by omega)
  have rE:=fun w:WD=>rec _ hmem els' (fun _ _ _ _ _ h=>by cases h; exact .inr rfl) w SE ee hE hee h8 (by omega)
  have hw:=wrapS (i:=j) (by omega)
  (repeat' first|refine vw ?_ ?_<;>intro hq|refine vz ?_|simp -implicitDefEqProofs only [go_sem,hL.idx he])
  refine (hZ _).use ?_
  (repeat' first|refine vw ?_ ?_<;>intro hq|refine vz ?_|simp -implicitDefEqProofs only [go_sem,mT,hL.idx he])
  refine (rB _).use ?_
  (repeat' first|refine vw ?_ ?_<;>intro hq|refine vz ?_|simp -implicitDefEqProofs only [go_sem,mT,hL.idx he])
  refine (rE _).use ?_
  have w1:IntKind.i64.wrap ((nodesSs (xs.take j):Int)+1)=(nodesSs (xs.take j):Int)+1:=wrap64 (by omega) (by omega)
  have w2:IntKind.i64.wrap ((nodesSs (xs.take j):Int)+1+(nodesE v:Int))=(nodesSs (xs.take j):Int)+1+(nodesE v:Int):=wrap64 (by omega) (by omega)
  have w3:IntKind.i64.wrap ((nodesSs (xs.take j):Int)+1+(nodesE v:Int)+(nodesSs body:Int))=(nodesSs (xs.take j):Int)+1+(nodesE v:Int)+(nodesSs body:Int):=wrap64 (by omega) (by omega)
  have w4:IntKind.i64.wrap ((nodesSs (xs.take j):Int)+1+(nodesE v:Int)+(nodesSs body:Int)+(nodesSs els':Int))=(nodesSs (xs.take (j+1)):Int):=by rw [wrap64 (by omega) (by omega)]; omega
  have x1:=mx_nat (a:=depthSs body) (b:=depthSs els')
  have x2:=mx_nat (a:=depthE v) (b:=max (depthSs body) (depthSs els'))
  have hds:1+max (depthE v) (max (depthSs body) (depthSs els'))=depthS (.mk k nm v body els'):=by simp [depthS]
  have x3:IntKind.i64.wrap (1+((max (depthE v) (max (depthSs body) (depthSs els')):Nat):Int))=(depthS (.mk k nm v body els'):Int):=by rw [wrap64 (by omega) (by omega)]; omega
  have x4:=mx_nat (a:=depthSs (xs.take j)) (b:=depthS (.mk k nm v body els'))
  rw [<-hd1] at x4
  generalize depthS (.mk k nm v body els')=dS at*
  generalize max (depthE v) (max (depthSs body) (depthSs els'))=m2 at*
  generalize max (depthSs body) (depthSs els')=m1 at*
  have hfe:fewSs (xs.take (j+1))=(fewSs (xs.take j) && (fewE v && fewSs body && fewSs els')):=by rw [hf1]; simp [fewS]
  simp -implicitDefEqProofs only [go_sem,mT,w1,w2,w3,w4,x1,x2,x3,x4]
  cases hb0:fewSs (xs.take j) with
  | false=>
   rw [hb0] at hfe
   simp only [Bool.false_and] at hfe
   (repeat' first|refine vw ?_ ?_<;>intro hq|refine vz ?_|simp -implicitDefEqProofs only [go_sem,hw])
   refine ⟨j+1,vom,vom,?_⟩
   dsimp only
   rw [hfe]
   exact vsu
  | true=>
   cases hb1:fewE v with
   | false=>
    rw [hb0,hb1] at hfe
    simp only [Bool.false_and,Bool.and_false] at hfe
    (repeat' first|refine vw ?_ ?_<;>intro hq|refine vz ?_|simp -implicitDefEqProofs only [go_sem,hw])
    refine ⟨j+1,vom,vom,?_⟩
    dsimp only
    rw [hfe]
    exact vsu
   | true=>
    cases hb2:fewSs body with
    | false=>
     rw [hb0,hb1,hb2] at hfe
     simp only [Bool.false_and,Bool.and_false] at hfe
     (repeat' first|refine vw ?_ ?_<;>intro hq|refine vz ?_|simp -implicitDefEqProofs only [go_sem,hw])
     refine ⟨j+1,vom,vom,?_⟩
     dsimp only
     rw [hfe]
     exact vsu
    | true=>
     rw [hb0,hb1,hb2] at hfe
     simp only [Bool.true_and] at hfe
     (repeat' first|refine vw ?_ ?_<;>intro hq|refine vz ?_|simp -implicitDefEqProofs only [go_sem,hw])
     refine ⟨j+1,vom,vom,?_⟩
     dsimp only
     rw [hfe]
     exact vsu
 ·obtain rfl:j=xs.length:=by omega
  have ht:=List.take_length (l:=xs)
  (repeat' first|refine vw ?_ ?_<;>intro hq|refine vz ?_|simp -implicitDefEqProofs only [go_sem,ht])
  exact ⟨_,rfl,rfl⟩
theorem sizesRC:∀ {N:Nat} {xs:List St} {w:WD} {L:AVal} {els:List AVal},nodesSs xs<=N->IsD 8 L els->IsSts xs els->els.length<=281474976710656->nodesSs xs<=1099511627776->GivesV (EE w) 73 [L] (mT (nodesSs xs) (depthSs xs) (fewSs xs))
  | 0, xs, _, _, _, hN, hL, hx, hlen, hb => sizesRStep hL hx hlen hb fun x hmem => by
      obtain ⟨j,hj,rfl⟩:=List.mem_iff_getElem.1 hmem
      have h1:=nodesS_at (List.getElem?_eq_getElem hj)
      have h2:=nodesS_pos xs[j]
      omega
  | N + 1, xs, _, _, _, hN, hL, hx, hlen, hb => sizesRStep hL hx hlen hb fun x hmem ys hys w L els h1 h2 h3 h4 => sizesRC (N := N) (by
      obtain ⟨j,hj,rfl⟩:=List.mem_iff_getElem.1 hmem
      have h1:=nodesS_at (List.getElem?_eq_getElem hj)
      revert h1 hys
      generalize xs[j]=x
      intro hys h1
      obtain ⟨k,nm,v,b,e⟩:=x
      have:=nodesE_pos v
      simp only [nodesS] at h1
      rcases hys _ _ _ _ _ rfl with rfl|rfl<;>omega) h1 h2 h3 h4
def smF (f:Fc):Bool:=decide (depthSs f.body<=30) && fewSs f.body && decide (f.ps.length<=4)
theorem smallF_if {l:List Fc}:smallF l=(l.all smF && decide (nodesF l<=400) && decide (l.length<=8)):=rfl
theorem all_takeP {l:List Fc} {j:Nat} {f:Fc} {P:Fc->Bool} (h:l[j]?=some f) (h0:(l.take j).all P=true) (h1:P f=true):(l.take (j+1)).all P=true:=by
 obtain ⟨hj,he⟩:=List.getElem?_eq_some_iff.1 h
 rw [List.take_succ_eq_append_getElem hj,List.all_append,h0,he]
 simp [h1]
theorem all_badP {l:List Fc} {j:Nat} {f:Fc} {P:Fc->Bool} (h:l[j]?=some f) (h1:P f=false):l.all P=false:=by
 rw [List.all_eq_false]
 exact ⟨f,List.mem_of_getElem? h,by simp [h1]⟩
theorem smallAllRC {w:WD} {L:AVal} {els:List AVal} {fs:List Fc} (hL:IsD 3 L els) (hl:IsFcs fs els) (hlen:els.length<=281474976710656) (hb:nodesF fs<=1099511627776):GivesV (EE w) 34 [L] (.sc (.bool (smallF fs))):=by
 have hll:=hl.len
 have hLn:∀ σ:AStore,aLen (.slice 0) L σ=some (.sc (.int .i64 (fs.length))):=fun σ=>hL.lenN hll
 rw [smallF_if]
 refine GivesV.of (fun _=>.sc _) (.cons _ _ (hL.wf hl.wf) .nil) 1 ?_
 refine of_34 rfl rfl rfl (by kernel_rfl) ?_
 simp -implicitDefEqProofs only [go_sem,hLn]
 refine vlp (ι:=Nat) (fun j=>[(0,L),(3,(.sc (.int .i64 (nodesF (fs.take j))))),(4,(.sc (.int .i64 (j))))]) (fun j _=>j<=fs.length/\(fs.take j).all smF=true) (fun j=>fs.length - j) (fun _=>rfl) 0 ?_ ?_ ?_
 ·simp [subE,look?,nodesF]
 ·exact ⟨Nat.zero_le _,rfl⟩
 rintro j τ ⟨hj,h0⟩
 simp -implicitDefEqProofs only [go_sem,hLn]
 (refine vif ?_ ?_<;>intro hlt)
 ·obtain ⟨f,hf⟩:∃ f,fs[j]?=some f:=⟨fs[j]'(by omega),by simp⟩
  obtain ⟨e,he,hfe⟩:=hl.at' j f hf
  have cc:=hfe.cellsOk
  obtain ⟨SP,SB,eb,rfl,hP,hB,hb',h1,h2,h3,h4⟩:=hfe
  have hPn:∀ σ:AStore,aLen (.slice 0) SP σ=some (.sc (.int .i64 (f.ps.length))):=fun σ=>by have:=hP.len (σ:=σ); rwa [List.length_map] at this
  have hn1:=nodesF_take1 fs hf
  have hn2:=nodesF_le (l:=fs) (i:=j+1)
  have hw:=wrapS (i:=j) (by omega)
  have hwn:IntKind.i64.wrap ((nodesF (fs.take j):Int)+(nodesSs f.body:Int))=(nodesF (fs.take (j+1)):Int):=by rw [wrap64 (by omega) (by omega)]; omega
  have hok:=all_takeP (P:=smF) hf h0
  have hno:=all_badP (P:=smF) hf
  (repeat' first|refine vw ?_ ?_<;>intro hq|refine vz ?_|simp -implicitDefEqProofs only [go_sem,hL.idx he])
  refine (sizesRC (Nat.le_refl _) hB hb' h4 (by omega)).use ?_
  cases hfw:fewSs f.body with
  | false=>
   (repeat' first|refine vw ?_ ?_<;>intro hq|refine vz ?_|simp -implicitDefEqProofs only [go_sem,mT,hwn,hL.idx he,hPn,hw])
   all_goals exact ret_bool (by rw [hno (by simp [smF,hfw])]; rfl)
  | true=>
   (repeat' first|refine vw ?_ ?_<;>intro hq|refine vz ?_|simp -implicitDefEqProofs only [go_sem,mT,hwn,hL.idx he,hPn,hw])
   all_goals first
    | exact ret_bool (by rw [hno (by simp [smF]; omega)]; rfl)
    | exact ⟨j+1,vom,⟨by omega,hok (by simp [smF,hfw]; omega)⟩,vsu⟩
 ·obtain rfl:j=fs.length:=by omega
  have ht:=List.take_length (l:=fs)
  rw [ht] at h0
  rw [h0]
  (repeat' first|refine vw ?_ ?_<;>intro hq|refine vz ?_|simp -implicitDefEqProofs only [go_sem,ht,hLn])
  all_goals (refine ret_bool ?_; first|(rw [dct (by omega:nodesF fs<=400),Bool.true_and]; exact decide_eq_decide.mpr (by omega))|(rw [dcf (by omega:¬ nodesF fs<=400)]; rfl))
theorem formedSs_take {xs:List St} {j:Nat} {x:St} (h:xs[j]?=some x) (h0:formedSs nameB (xs.take j)=true) (h1:formedS nameB x=true):formedSs nameB (xs.take (j+1))=true:=by
 rw [formedSs_all] at h0 ⊢
 obtain ⟨hj,he⟩:=List.getElem?_eq_some_iff.1 h
 rw [List.take_succ_eq_append_getElem hj,List.all_append,h0,he]
 simp [h1]
theorem formedSs_bad {xs:List St} {j:Nat} {x:St} (h:xs[j]?=some x) (h1:formedS nameB x=false):formedSs nameB xs=false:=by
 rw [formedSs_all,List.all_eq_false]
 exact ⟨x,List.mem_of_getElem? h,by simp [h1]⟩
theorem formedAllRStep {xs:List St} {w:WD} {L:AVal} {els:List AVal} (hL:IsD 8 L els) (hx:IsSts xs els) (hlen:els.length<=281474976710656)
  (rec:∀ x∈xs,∀ (ys:List St),(∀ k nm v b e,x=.mk k nm v b e->ys=b\/ys=e)->∀ (w:WD) (L:AVal) (els:List AVal),IsD 8 L els->IsSts ys els->els.length<=281474976710656->
   GivesV (EE w) 109 [L] (.sc (.bool (formedSs nameB ys)))):GivesV (EE w) 109 [L] (.sc (.bool (formedSs nameB xs))):=by
 have hwf:=hL.wf hx.wf
 have hln:=hx.len
 have hLn:=fun σ:AStore=>hL.lenN hln (σ:=σ)
 refine GivesV.of (fun _=>.sc _) (.cons _ _ hwf .nil) 1 ?_
 refine of_109 rfl rfl rfl (by kernel_rfl) ?_
 simp -implicitDefEqProofs only [go_sem,hLn]
 refine vlp (ι:=Nat) (fun j=>[(0,L),(3,(.sc (.int .i64 (j))))]) (fun j _=>j<=xs.length/\formedSs nameB (xs.take j)=true) (fun j=>xs.length - j) (fun _=>rfl) 0 ?_ ?_ ?_
 ·exact vsu
 ·exact ⟨Nat.zero_le _,rfl⟩
 rintro j τ ⟨hj,h0⟩
 simp -implicitDefEqProofs only [go_sem,hLn]
 (refine vif ?_ ?_<;>intro hlt)
 ·obtain ⟨x,hx1⟩:∃ x,xs[j]?=some x:=⟨xs[j]'(by omega),by simp⟩
  obtain ⟨e,he,hxe⟩:=hx.at hx1
  have hmem:=List.mem_of_getElem? hx1
  obtain ⟨k,nm,v,body,els'⟩:=x
  have cc:=hxe.cellsOk
  simp only [IsSt] at hxe
  obtain ⟨SA,SB,SE,ea,eb,ee,rfl,hA',ha,hB,hb',hE,hee,h1,h2,h3,h4,h5,h6,h7,h8⟩:=hxe
  have hvx:=ex_of hA' ha h2 h3 h5 h6
  have kA:=hA'.fit
  have cA:=hA'.cells
  have iA:=hA'.isCell
  have kB:=hB.fit
  have cB:=hB.cells
  have iB:=hB.isCell
  have kE:=hE.fit
  have cE:=hE.cells
  have iE:=hE.isCell
  have hBn:=fun σ:AStore=>hB.lenN hb'.len (σ:=σ)
  have hEn:=fun σ:AStore=>hE.lenN hee.len (σ:=σ)
  have rB:=fun w:WD=>rec _ hmem body (fun _ _ _ _ _ h=>by cases h; exact .inl rfl) w SB eb hB hb' h7
  have rE:=fun w:WD=>rec _ hmem els' (fun _ _ _ _ _ h=>by cases h; exact .inr rfl) w SE ee hE hee h8
  have hw:=wrapS (i:=j) (by omega)
  have hno:=formedSs_bad hx1
  have hform:formedS nameB (.mk k nm v body els')=((decide (1<=k) && decide (k<=5)) && (if k=1\/k=2 then nameB nm else decide (nm.size=0)) && formedB nameB v && ((decide (body.length=0) || (decide (k=3) || decide (k=4))) && (decide (els'.length=0) || decide (k=3))) && formedSs nameB body && formedSs nameB els'):=by simp only [formedS]
  have hb4:(body.length=0\/k=3\/k=4)/\(els'.length=0\/k=3)->((decide (body.length=0) || (decide (k=3) || decide (k=4))) && (decide (els'.length=0) || decide (k=3)))=true:=by
   intro h; simpa using h
  have hb5:¬ ((body.length=0\/k=3\/k=4)/\(els'.length=0\/k=3))->((decide (body.length=0) || (decide (k=3) || decide (k=4))) && (decide (els'.length=0) || decide (k=3)))=false:=by
   intro h
   rw [Bool.eq_false_iff]
   intro hc
   exact h (by simpa using hc)
  by_cases hk15:1<=k/\k<=5
  ·(repeat' first|refine vw ?_ ?_<;>intro hq|refine vz ?_|simp -implicitDefEqProofs only [go_sem,hL.idx he,cc,kA,cA,iA,kB,cB,iB,kE,cE,iE])
   have hg:((τ.alloc (.cells 8 [.agg [.sc (.int .i64 0),.sc (.string ⟨#[]⟩),.sc (.int .i64 0),.sc (.string ⟨#[]⟩),.sc (.int .i64 0),.sc (.slice none 0 0),.sc (.slice none 0 0),.sc (.slice none 0 0)]])).set τ.next (.cells 8 [.agg [(.sc (.int .i64 (k))),.sc (.string nm),(.sc (.int .i64 (v.k))),.sc (.string v.nm),(.sc (.int .i64 (v.i))),SA,SB,SE]])).get τ.next=some (.cells 8 [.agg [(.sc (.int .i64 (k))),.sc (.string nm),(.sc (.int .i64 (v.k))),.sc (.string v.nm),(.sc (.int .i64 (v.i))),SA,SB,SE]]):=by rw [AStore.get_set,if_pos ⟨rfl,by simp only [alloc_next]; omega⟩]
   generalize (τ.alloc (.cells 8 [.agg [.sc (.int .i64 0),.sc (.string ⟨#[]⟩),.sc (.int .i64 0),.sc (.string ⟨#[]⟩),.sc (.int .i64 0),.sc (.slice none 0 0),.sc (.slice none 0 0),.sc (.slice none 0 0)]])).set τ.next (.cells 8 [.agg [(.sc (.int .i64 (k))),.sc (.string nm),(.sc (.int .i64 (v.k))),.sc (.string v.nm),(.sc (.int .i64 (v.i))),SA,SB,SE]])=τ1 at hg ⊢
   refine (formedRC hvx).use ?_
   cases hfv:formedB nameB v with
   | false=>
    (repeat' first|refine vw ?_ ?_<;>intro hq|refine vz ?_|simp -implicitDefEqProofs only [go_sem,hfv])
    exact ret_bool (hno (by simp [formedS,hfv])).symm
   | true=>
    by_cases hown:k=1\/k=2
    ·rw [if_pos hown] at hform
     (repeat' first|refine vw ?_ ?_<;>intro hq|refine vz ?_|simp -implicitDefEqProofs only [go_sem,hfv,hg,kA,cA,iA,kB,cB,iB,kE,cE,iE])
     all_goals refine (nameRC nm).use ?_
     all_goals cases hNm:nameB nm with
      | false=>
       (repeat' first|refine vw ?_ ?_<;>intro hq|refine vz ?_|simp -implicitDefEqProofs only [go_sem,hNm])
       all_goals exact ret_bool (hno (by rw [hform,hNm]; simp)).symm
      | true=>
       (repeat' first|refine vw ?_ ?_<;>intro hq|refine vz ?_|simp -implicitDefEqProofs only [go_sem,hNm])
       by_cases hbe:(body.length=0\/k=3\/k=4)/\(els'.length=0\/k=3)
       ·(repeat' first|refine vw ?_ ?_<;>intro hq|refine vz ?_|simp -implicitDefEqProofs only [go_sem,hg,hBn,hEn,kA,cA,iA,kB,cB,iB,kE,cE,iE])
        all_goals refine (rB _).use ?_
        all_goals cases hfb:formedSs nameB body with
         | false=>
          (repeat' first|refine vw ?_ ?_<;>intro hq|refine vz ?_|simp -implicitDefEqProofs only [go_sem,hfb])
          all_goals exact ret_bool (hno (by simp [formedS,hfb])).symm
         | true=>
          (repeat' first|refine vw ?_ ?_<;>intro hq|refine vz ?_|simp -implicitDefEqProofs only [go_sem,hfb,hg,kA,cA,iA,kB,cB,iB,kE,cE,iE])
          all_goals refine (rE _).use ?_
          all_goals cases hfe:formedSs nameB els' with
           | false=>
            (repeat' first|refine vw ?_ ?_<;>intro hq|refine vz ?_|simp -implicitDefEqProofs only [go_sem,hfe])
            all_goals exact ret_bool (hno (by simp [formedS,hfe])).symm
           | true=>
            have hyes:formedS nameB (.mk k nm v body els')=true:=by
             rw [hform,hfv,hNm,hfb,hfe,hb4 hbe,dct hk15.1,dct hk15.2]; rfl
            (repeat' first|refine vw ?_ ?_<;>intro hq|refine vz ?_|simp -implicitDefEqProofs only [go_sem,hfe,hw])
            all_goals exact ⟨j+1,vom,⟨vom,formedSs_take hx1 h0 hyes⟩,vsu⟩
       ·(repeat' first|refine vw ?_ ?_<;>intro hq|refine vz ?_|simp -implicitDefEqProofs only [go_sem,hg,hBn,hEn,kA,cA,iA,kB,cB,iB,kE,cE,iE])
        all_goals exact ret_bool (hno (by rw [hform,hb5 hbe]; simp)).symm
    ·rw [if_neg hown] at hform
     (repeat' first|refine vw ?_ ?_<;>intro hq|refine vz ?_|simp -implicitDefEqProofs only [go_sem,hfv,hg,kA,cA,iA,kB,cB,iB,kE,cE,iE])
     rw [<-nm_empty] at hform
     by_cases hN:nm=⟨#[]⟩
     ·rw [dct hN] at hform
      (repeat' first|refine vw ?_ ?_<;>intro hq|refine vz ?_|simp -implicitDefEqProofs only [go_sem,ba_list,dct hN])
      by_cases hbe:(body.length=0\/k=3\/k=4)/\(els'.length=0\/k=3)
      ·(repeat' first|refine vw ?_ ?_<;>intro hq|refine vz ?_|simp -implicitDefEqProofs only [go_sem,hg,hBn,hEn,kA,cA,iA,kB,cB,iB,kE,cE,iE])
       all_goals refine (rB _).use ?_
       all_goals cases hfb:formedSs nameB body with
        | false=>
         (repeat' first|refine vw ?_ ?_<;>intro hq|refine vz ?_|simp -implicitDefEqProofs only [go_sem,hfb])
         all_goals exact ret_bool (hno (by simp [formedS,hfb])).symm
        | true=>
         (repeat' first|refine vw ?_ ?_<;>intro hq|refine vz ?_|simp -implicitDefEqProofs only [go_sem,hfb,hg,kA,cA,iA,kB,cB,iB,kE,cE,iE])
         all_goals refine (rE _).use ?_
         all_goals cases hfe:formedSs nameB els' with
          | false=>
           (repeat' first|refine vw ?_ ?_<;>intro hq|refine vz ?_|simp -implicitDefEqProofs only [go_sem,hfe])
           all_goals exact ret_bool (hno (by simp [formedS,hfe])).symm
          | true=>
           have hyes:formedS nameB (.mk k nm v body els')=true:=by
            rw [hform,hfv,hfb,hfe,hb4 hbe,dct hk15.1,dct hk15.2]; rfl
           (repeat' first|refine vw ?_ ?_<;>intro hq|refine vz ?_|simp -implicitDefEqProofs only [go_sem,hfe,hw])
           all_goals exact ⟨j+1,vom,⟨vom,formedSs_take hx1 h0 hyes⟩,vsu⟩
      ·(repeat' first|refine vw ?_ ?_<;>intro hq|refine vz ?_|simp -implicitDefEqProofs only [go_sem,hg,hBn,hEn,kA,cA,iA,kB,cB,iB,kE,cE,iE])
       all_goals exact ret_bool (hno (by rw [hform,hb5 hbe]; simp)).symm
     ·rw [dcf hN] at hform
      (repeat' first|refine vw ?_ ?_<;>intro hq|refine vz ?_|simp -implicitDefEqProofs only [go_sem,ba_list,dcf hN])
      exact ret_bool (hno (by rw [hform]; simp)).symm
  ·(repeat' first|refine vw ?_ ?_<;>intro hq|refine vz ?_|simp -implicitDefEqProofs only [go_sem,hL.idx he,cc,kA,cA,iA,kB,cB,iB,kE,cE,iE])
   all_goals exact ret_bool (hno (by rw [hform]; rcases Classical.em (1<=k) with h|h<;>simp [h]; omega)).symm
 ·obtain rfl:j=xs.length:=by omega
  rw [List.take_length] at h0
  (repeat' first|refine vw ?_ ?_<;>intro hq|refine vz ?_|simp -implicitDefEqProofs only [go_sem])
  exact ret_bool h0.symm
theorem formedAllRC:∀ {N:Nat} {xs:List St} {w:WD} {L:AVal} {els:List AVal},nodesSs xs<=N->IsD 8 L els->IsSts xs els->els.length<=281474976710656->GivesV (EE w) 109 [L] (.sc (.bool (formedSs nameB xs)))
  | 0, xs, _, _, _, hN, hL, hx, hlen => formedAllRStep hL hx hlen fun x hmem => by
      obtain ⟨j,hj,rfl⟩:=List.mem_iff_getElem.1 hmem
      have h1:=nodesS_at (List.getElem?_eq_getElem hj)
      have h2:=nodesS_pos xs[j]
      omega
  | N + 1, xs, _, _, _, hN, hL, hx, hlen => formedAllRStep hL hx hlen fun x hmem ys hys w L els h1 h2 h3 => formedAllRC (N := N) (by
      obtain ⟨j,hj,rfl⟩:=List.mem_iff_getElem.1 hmem
      have h1:=nodesS_at (List.getElem?_eq_getElem hj)
      revert h1 hys
      generalize xs[j]=x
      intro hys h1
      obtain ⟨k,nm,v,b,e⟩:=x
      have:=nodesE_pos v
      simp only [nodesS] at h1
      rcases hys _ _ _ _ _ rfl with rfl|rfl<;>omega) h1 h2 h3
theorem checkExpRC {w:WD} {x:Ex} {v:AVal} (h:IsEx x v) (hb:nodesE x<=1099511627776):GivesV (EE w) 58 [v] (.sc (.int .i64 (checkE nameB x))):=by
 obtain ⟨c1,c2,c3⟩:=h.isA.facts
 have cc:=h.cellsOk
 have hfit:v.fit=true:=by obtain ⟨cs,rfl,_⟩:=h.isA; rfl
 refine GivesV.of (fun _=>.sc _) (.cons _ _ h.wf .nil) 1 ?_
 refine of_58 rfl rfl rfl (by kernel_rfl) ?_
 simp -implicitDefEqProofs only [go_sem,c1,c2,c3,cc,hfit]
 have g0:(empty.alloc (.cells 4 [v])).get 0=some (.cells 4 [v]):=by rw [AStore.get_alloc]; rfl
 generalize empty.alloc (.cells 4 [v])=τ at g0 ⊢
 refine (formedRC h).use ?_
 unfold checkE
 cases hf:formedB nameB x with
 | false=>
  (repeat' first|refine vw ?_ ?_<;>intro hq|refine vz ?_|simp -implicitDefEqProofs only [go_sem,hf])
  exact ret_int rfl
 | true=>
  (repeat' first|refine vw ?_ ?_<;>intro hq|refine vz ?_|simp -implicitDefEqProofs only [go_sem,hf,g0,c1,c2,c3,cc,hfit])
  refine (smallRC h hb).use ?_
  cases hs:smallE x with
  | false=>
   (repeat' first|refine vw ?_ ?_<;>intro hq|refine vz ?_|simp -implicitDefEqProofs only [go_sem,hs])
   exact ret_int rfl
  | true=>
   (repeat' first|refine vw ?_ ?_<;>intro hq|refine vz ?_|simp -implicitDefEqProofs only [go_sem,hs])
   exact ret_int rfl
theorem retRStep {xs:List St} {w:WD} {L:AVal} {els:List AVal} (hL:IsD 8 L els) (hx:IsSts xs els) (hlen:els.length<=281474976710656)
  (rec:∀ x∈xs,∀ (ys:List St),(∀ k nm v b e,x=.mk k nm v b e->ys=b\/ys=e)->∀ (w:WD) (L:AVal) (els:List AVal),IsD 8 L els->IsSts ys els->els.length<=281474976710656->
   GivesV (EE w) 111 [L] (.sc (.bool (retSs ys)))):GivesV (EE w) 111 [L] (.sc (.bool (retSs xs))):=by
 have hwf:=hL.wf hx.wf
 have hln:=hx.len
 have hLn:=fun σ:AStore=>hL.lenN hln (σ:=σ)
 refine GivesV.of (fun _=>.sc _) (.cons _ _ hwf .nil) 2 ?_
 refine of_111 rfl rfl rfl (by kernel_rfl) ?_
 simp -implicitDefEqProofs only [go_sem,hLn]
 refine vlp (ι:=Nat) (fun j=>[(0,L),(3,(.sc (.int .i64 (j))))]) (fun j τ=>j<=xs.length/\retSs (xs.take j)=false) (fun j=>xs.length - j) (fun _=>rfl) 0 ?_ ?_ ?_
 ·exact vsu
 ·exact ⟨Nat.zero_le _,rfl⟩
 rintro j τ ⟨hj,h0⟩
 simp -implicitDefEqProofs only [go_sem,hLn]
 (refine vif ?_ ?_<;>intro hlt)
 ·obtain ⟨x,hx1⟩:∃ x,xs[j]?=some x:=⟨xs[j]'(by omega),by simp⟩
  obtain ⟨e,he,hxe⟩:=hx.at hx1
  have hmem:=List.mem_of_getElem? hx1
  obtain ⟨k,nm,v,body,els'⟩:=x
  simp only [IsSt] at hxe
  obtain ⟨SA,SB,SE,ea,eb,ee,rfl,hA',ha,hB,hb',hE,hee,h1,h2,h3,h4,h5,h6,h7,h8⟩:=hxe
  have rB:=fun w:WD=>rec _ hmem body (fun _ _ _ _ _ h=>by cases h; exact .inl rfl) w SB eb hB hb' h7
  have rE:=fun w:WD=>rec _ hmem els' (fun _ _ _ _ _ h=>by cases h; exact .inr rfl) w SE ee hE hee h8
  have hw:=wrapS (i:=j) (by omega)
  have hr:retS (.mk k nm v body els')=(decide (k=5) || (decide (k=3) && retSs body && retSs els')):=by simp [retS]
  have hno:retS (.mk k nm v body els')=false->retSs (xs.take (j+1))=false:=retSs_take hx1 h0
  have hyes:retS (.mk k nm v body els')=true->retSs xs=true:=retSs_at hx1
  rw [hr] at hno hyes
  by_cases k5:k=5
  ·(repeat' first|refine vw ?_ ?_<;>intro hq|refine vz ?_|simp -implicitDefEqProofs only [go_sem,hL.idx he,dct k5])
   exact ret_bool (hyes (by simp [k5])).symm
  ·by_cases k3:k=3
   ·(repeat' first|refine vw ?_ ?_<;>intro hq|refine vz ?_|simp -implicitDefEqProofs only [go_sem,hL.idx he,dcf k5,dct k3])
    refine (rB _).use ?_
    cases hb0:retSs body with
    | false=>
     (repeat' first|refine vw ?_ ?_<;>intro hq|refine vz ?_|simp -implicitDefEqProofs only [go_sem,hb0,hw])
     exact ⟨j+1,vom,⟨by omega,hno (by simp [k5,hb0])⟩,vsu⟩
    | true=>
     (repeat' first|refine vw ?_ ?_<;>intro hq|refine vz ?_|simp -implicitDefEqProofs only [go_sem,hb0,hw,hL.idx he])
     refine (rE _).use ?_
     cases hb1:retSs els' with
     | false=>
      (repeat' first|refine vw ?_ ?_<;>intro hq|refine vz ?_|simp -implicitDefEqProofs only [go_sem,hb1,hw])
      exact ⟨j+1,vom,⟨by omega,hno (by simp [k5,hb0,hb1])⟩,vsu⟩
     | true=>
      (repeat' first|refine vw ?_ ?_<;>intro hq|refine vz ?_|simp -implicitDefEqProofs only [go_sem,hb1,hw])
      exact ret_bool (hyes (by simp [k3,hb0,hb1])).symm
   ·(repeat' first|refine vw ?_ ?_<;>intro hq|refine vz ?_|simp -implicitDefEqProofs only [go_sem,hL.idx he,dcf k5,dcf k3,hw])
    exact ⟨j+1,vom,⟨by omega,hno (by simp [k5,k3])⟩,vsu⟩
 ·obtain rfl:j=xs.length:=by omega
  rw [List.take_length] at h0
  (repeat' first|refine vw ?_ ?_<;>intro hq|refine vz ?_|simp -implicitDefEqProofs only [go_sem])
  exact ret_bool h0.symm
theorem retRC:∀ {N:Nat} {xs:List St} {w:WD} {L:AVal} {els:List AVal},nodesSs xs<=N->IsD 8 L els->IsSts xs els->els.length<=281474976710656->GivesV (EE w) 111 [L] (.sc (.bool (retSs xs)))
  | 0, xs, _, _, _, hN, hL, hx, hlen => retRStep hL hx hlen fun x hmem => by
      obtain ⟨j,hj,rfl⟩:=List.mem_iff_getElem.1 hmem
      have h1:=nodesS_at (List.getElem?_eq_getElem hj)
      have h2:=nodesS_pos xs[j]
      omega
  | N + 1, xs, _, _, _, hN, hL, hx, hlen => retRStep hL hx hlen fun x hmem ys hys w L els h1 h2 h3 => retRC (N := N) (by
      obtain ⟨j,hj,rfl⟩:=List.mem_iff_getElem.1 hmem
      have h1:=nodesS_at (List.getElem?_eq_getElem hj)
      revert h1 hys
      generalize xs[j]=x
      intro hys h1
      obtain ⟨k,nm,v,b,e⟩:=x
      have:=nodesE_pos v
      simp only [nodesS] at h1
      rcases hys _ _ _ _ _ rfl with rfl|rfl<;>omega) h1 h2 h3
theorem ps_take {l:List ByteArray} {j:Nat} {f:ByteArray} {P:ByteArray->Bool} (h:l[j]?=some f) (h0:(l.take j).all P=true) (h1:P f=true):(l.take (j+1)).all P=true:=by
 obtain ⟨hj,he⟩:=List.getElem?_eq_some_iff.1 h
 rw [List.take_succ_eq_append_getElem hj,List.all_append,h0,he]
 simp [h1]
theorem ps_bad {l:List ByteArray} {j:Nat} {f:ByteArray} {P:ByteArray->Bool} (h:l[j]?=some f) (h1:P f=false):l.all P=false:=by
 rw [List.all_eq_false]
 exact ⟨f,List.mem_of_getElem? h,by simp [h1]⟩
theorem checkFuncsRC {w:WD} {L:AVal} {els:List AVal} {fs:List Fc} (hL:IsD 3 L els) (hl:IsFcs fs els) (hlen:els.length<=281474976710656) (hb:nodesF fs<=1099511627776):GivesV (EE w) 84 [L] (.sc (.int .i64 (checkF nameB fs))):=by
 have hll:=hl.len
 have hLn:∀ σ:AStore,aLen (.slice 0) L σ=some (.sc (.int .i64 (fs.length))):=fun σ=>hL.lenN hll
 have hSm:=fun w:WD=>smallAllRC (w:=w) hL hl hlen hb
 refine GivesV.of (fun _=>.sc _) (.cons _ _ (hL.wf hl.wf) .nil) 1 ?_
 refine of_84 rfl rfl rfl (by kernel_rfl) ?_
 simp -implicitDefEqProofs only [go_sem,hLn]
 refine vlp (ι:=Nat) (fun j=>[(0,L),(3,(.sc (.int .i64 (j))))]) (fun j _=>j<=fs.length/\(fs.take j).all (formedF nameB)=true) (fun j=>fs.length - j) (fun _=>rfl) 0 ?_ ?_ ?_
 ·exact vsu
 ·exact ⟨Nat.zero_le _,rfl⟩
 rintro j τ ⟨hj,h0⟩
 simp -implicitDefEqProofs only [go_sem,hLn]
 (refine vif ?_ ?_<;>intro hlt)
 ·obtain ⟨f,hf⟩:∃ f,fs[j]?=some f:=⟨fs[j]'(by omega),by simp⟩
  obtain ⟨e,he,hfe⟩:=hl.at' j f hf
  obtain ⟨SP,SB,eb,rfl,hP,hB,hb',h1,h2,h3,h4⟩:=hfe
  have hPn:∀ σ:AStore,aLen (.slice 0) SP σ=some (.sc (.int .i64 (f.ps.length))):=fun σ=>by have:=hP.len (σ:=σ); rwa [List.length_map] at this
  have hw:=wrapS (i:=j) (by omega)
  have hok:=all_takeP (P:=formedF nameB) hf h0
  have hno:=all_badP (P:=formedF nameB) hf
  have hbad:formedF nameB f=false->checkF nameB fs=2:=fun h=>by
   have:=hno h
   unfold checkF
   rw [this]; rfl
  (repeat' first|refine vw ?_ ?_<;>intro hq|refine vz ?_|simp -implicitDefEqProofs only [go_sem,hL.idx he])
  refine (nameRC f.nm).use ?_
  cases hN:nameB f.nm with
  | false=>
   (repeat' first|refine vw ?_ ?_<;>intro hq|refine vz ?_|simp -implicitDefEqProofs only [go_sem,hN])
   exact ret_int (hbad (by simp [formedF,hN])).symm
  | true=>
   (repeat' first|refine vw ?_ ?_<;>intro hq|refine vz ?_|simp -implicitDefEqProofs only [go_sem,hN,hL.idx he])
   refine (formedAllRC (Nat.le_refl _) hB hb' h4).use ?_
   cases hA:formedSs nameB f.body with
   | false=>
    (repeat' first|refine vw ?_ ?_<;>intro hq|refine vz ?_|simp -implicitDefEqProofs only [go_sem,hA])
    exact ret_int (hbad (by simp [formedF,hA])).symm
   | true=>
    (repeat' first|refine vw ?_ ?_<;>intro hq|refine vz ?_|simp -implicitDefEqProofs only [go_sem,hA,hL.idx he,hPn])
    refine vlp (ι:=Nat) (fun i=>[(0,L),(3,(.sc (.int .i64 (j)))),(4,(.sc (.int .i64 (i))))]) (fun i _=>i<=f.ps.length/\(f.ps.take i).all nameB=true) (fun i=>f.ps.length - i) (fun _=>rfl) 0 ?_ ?_ ?_
    ·exact vsu
    ·exact ⟨Nat.zero_le _,rfl⟩
    rintro i τ' ⟨hi,hp0⟩
    simp -implicitDefEqProofs only [go_sem,hL.idx he,hPn]
    (refine vif ?_ ?_<;>intro hilt)
    ·obtain ⟨p,hp⟩:∃ p,f.ps[i]?=some p:=⟨f.ps[i]'(by omega),by simp⟩
     have hpe:(f.ps.map sA)[i]?=some (.sc (.string p)):=by rw [List.getElem?_map,hp]; rfl
     have hwi:=wrapS (i:=i) (by omega)
     (repeat' first|refine vw ?_ ?_<;>intro hq|refine vz ?_|simp -implicitDefEqProofs only [go_sem,hL.idx he,hP.idx hpe])
     refine (nameRC p).use ?_
     cases hq:nameB p with
     | false=>
      (repeat' first|refine vw ?_ ?_<;>intro hq|refine vz ?_|simp -implicitDefEqProofs only [go_sem,hq])
      exact ret_int (hbad (by simp [formedF,ps_bad hp hq])).symm
     | true=>
      (repeat' first|refine vw ?_ ?_<;>intro hq|refine vz ?_|simp -implicitDefEqProofs only [go_sem,hq,hwi])
      exact ⟨i+1,vom,⟨vom,ps_take hp hp0 hq⟩,vsu⟩
    ·obtain rfl:i=f.ps.length:=by omega
     rw [List.take_length] at hp0
     (repeat' first|refine vw ?_ ?_<;>intro hq|refine vz ?_|simp -implicitDefEqProofs only [go_sem,hw])
     exact ⟨j+1,vom,⟨by omega,hok (by simp [formedF,hN,hA,hp0])⟩,vsu⟩
 ·obtain rfl:j=fs.length:=by omega
  rw [List.take_length] at h0
  have hc:checkF nameB fs=if smallF fs then 0 else 3:=by unfold checkF; rw [if_pos h0]
  rw [hc]
  (repeat' first|refine vw ?_ ?_<;>intro hq|refine vz ?_|simp -implicitDefEqProofs only [go_sem])
  refine (hSm _).use ?_
  cases hs:smallF fs with
  | false=>
   (repeat' first|refine vw ?_ ?_<;>intro hq|refine vz ?_|simp -implicitDefEqProofs only [go_sem,hs])
   exact ret_int rfl
  | true=>
   (repeat' first|refine vw ?_ ?_<;>intro hq|refine vz ?_|simp -implicitDefEqProofs only [go_sem,hs])
   exact ret_int rfl
end Abs
end
