/-
  Functions of the program walked: each is shown to compute a plain function (T25).
-/
import Derived.Test.YtkhjmhdpaikokaaGreatDoorT11
set_option linter.unusedSimpArgs false
set_option linter.unusedVariables false
set_option maxRecDepth 100000
set_option maxHeartbeats 16000000
noncomputable section
namespace Abs
open Go Go.Proofs
def argsI (k:Int):Int:=if k=1\/k=2 then 0 else if k=3\/k=4 then 1 else if 5<=k/\k<=17 then 2 else if k=18 then 3 else if k=19 then -1 else -2
theorem ret_int {σ:AStore} {n:Nat} {b c:Int} (h:b=c):∃ u,AEnd.ret (.sc (.int .i64 (b)))=AEnd.ret u/\frz σ (n+1) u=some (.sc (.int .i64 (c))):=⟨_,rfl,by rw [h]; rfl⟩
theorem argsRC {w:WD} (k:Int):GivesV (EE w) 154 [(.sc (.int .i64 (k)))] (.sc (.int .i64 (argsI k))):=by
 refine GivesV.of gWF (.cons _ _ (.sc _) .nil) 1 ?_
 refine of_154 rfl rfl rfl (by kernel_rfl) ?_
 (repeat' first|refine vw ?_ ?_<;>intro hq|refine vz ?_|simp -implicitDefEqProofs only [go_sem])
 all_goals (refine ret_int ?_; unfold argsI; repeat' split; all_goals first|rfl|omega)
def gA (k i:Int) (n:Nat):Bool:=arityB k n && ((decide (i=0) || decide (k=1)) && (decide (-2147483648<=i) && decide (i<=2147483648)))
def gB (k:Int) (nm:ByteArray):Bool:=if k=2\/k=19 then nameB nm else decide (nm.size=0)
theorem arity_args (k:Int) (n:Nat):arityB k n=!(decide (argsI k=-2) || (decide (0<=argsI k) && !decide ((n:Int)=argsI k))):=by
 rw [Bool.eq_iff_iff]
 unfold arityB argsI
 by_cases h1:k=1\/k=2
 ·simp only [if_pos h1]; simp
 by_cases h2:k=3\/k=4
 ·simp only [if_neg h1,if_pos h2]; simp; omega
 by_cases h3:5<=k/\k<=17
 ·simp only [if_neg h1,if_neg h2,if_pos h3]; simp; omega
 by_cases h4:k=18
 ·simp only [if_neg h1,if_neg h2,if_neg h3,if_pos h4]; simp; omega
 by_cases h5:k=19
 ·simp only [if_neg h1,if_neg h2,if_neg h3,if_neg h4,if_pos h5]; simp [h5]
 ·simp only [if_neg h1,if_neg h2,if_neg h3,if_neg h4,if_neg h5]; simp [h5]
theorem formedB_g {k i:Int} {nm:ByteArray} {xs:List Ex}:formedB nameB (.mk k nm i xs)=(gA k i xs.length && (gB k nm && formedBs nameB xs)):=by
 simp only [formedB,gA,gB,Bool.and_assoc]
 cases arityB k xs.length<;>simp
 split<;>simp [Bool.and_comm,Bool.and_left_comm,Bool.and_assoc]
theorem formedBs_take {xs:List Ex} {j:Nat} {x:Ex} (h:xs[j]?=some x) (h0:formedBs nameB (xs.take j)=true) (h1:formedB nameB x=true):formedBs nameB (xs.take (j+1))=true:=by
 rw [formedBs_all] at h0 ⊢
 obtain ⟨hj,he⟩:=List.getElem?_eq_some_iff.1 h
 rw [List.take_succ_eq_append_getElem hj,List.all_append,h0,he]
 simp [h1]
theorem formedBs_bad {xs:List Ex} {j:Nat} {x:Ex} (h:xs[j]?=some x) (h1:formedB nameB x=false):formedBs nameB xs=false:=by
 rw [formedBs_all,List.all_eq_false]
 exact ⟨x,List.mem_of_getElem? h,by simp [h1]⟩
theorem formedRStep {k i:Int} {nm:ByteArray} {xs:List Ex} {w:WD} {v:AVal} (h:IsEx (.mk k nm i xs) v) (rec:∀ y∈xs,∀ (w:WD) (v:AVal),IsEx y v->GivesV (EE w) 133 [v] (.sc (.bool (formedB nameB y)))):
  GivesV (EE w) 133 [v] (.sc (.bool (formedB nameB (.mk k nm i xs)))):=by
 have hwf:=h.wf
 simp only [IsEx] at h
 obtain ⟨S,els,rfl,hS,hx,hk,hi,hn,hl⟩:=h
 have hlen:=hx.len
 have hSn:=fun σ:AStore=>hS.lenN hlen (σ:=σ)
 have kS:=hS.fit
 have cS:=hS.cells
 have iS:=hS.isCell
 rw [formedB_g]
 refine GivesV.of gWF (.cons _ _ hwf .nil) 1 ?_
 refine of_133 rfl rfl rfl (by kernel_rfl) ?_
 simp -implicitDefEqProofs only [go_sem,kS,cS,iS]
 refine (argsRC _).use ?_
 have g0:(empty.alloc (.cells 4 [.agg [(.sc (.int .i64 (k))),.sc (.string nm),(.sc (.int .i64 (i))),S]])).get 0=some (.cells 4 [.agg [(.sc (.int .i64 (k))),.sc (.string nm),(.sc (.int .i64 (i))),S]]):=by rw [AStore.get_alloc]; rfl
 generalize empty.alloc (.cells 4 [.agg [(.sc (.int .i64 (k))),.sc (.string nm),(.sc (.int .i64 (i))),S]])=τ at g0 ⊢
 have har:=arity_args k xs.length
 by_cases hgA:gA k i xs.length=true
 ·have hgA':=hgA
  simp only [gA,har,Bool.and_eq_true,Bool.not_eq_true',Bool.or_eq_false_iff,Bool.and_eq_false_iff,Bool.or_eq_true,decide_eq_true_eq,decide_eq_false_iff_not,Bool.not_eq_false'] at hgA'
  obtain ⟨⟨u1,u2⟩,u3,u4,u5⟩:=hgA'
  rw [hgA,Bool.true_and]
  (repeat' first|refine vw ?_ ?_<;>intro hq|refine vz ?_|simp -implicitDefEqProofs only [go_sem,g0,hSn])
  ·have hB:gB k nm=decide (nm.size=0):=if_neg (by omega)
   rw [hB,<-nm_empty]
   by_cases hn0:nm=⟨#[]⟩
   ·rw [dct hn0,Bool.true_and]
    (repeat' first|refine vw ?_ ?_<;>intro hq|refine vz ?_|simp -implicitDefEqProofs only [go_sem,ba_list,dct hn0])
    refine vlp (ι:=Nat) (fun j=>[(1,.ptr 0 0 0),(5,(.sc (.int .i64 (j))))]) (fun j τ=>j<=xs.length/\τ.get 0=some (.cells 4 [.agg [(.sc (.int .i64 (k))),.sc (.string nm),(.sc (.int .i64 (i))),S]])/\formedBs nameB (xs.take j)=true) (fun j=>xs.length - j) (fun _=>rfl) 0 ?_ ?_ ?_
    ·exact vsu
    ·exact ⟨Nat.zero_le _,g0,rfl⟩
    rintro j τ' ⟨hj,g1,h0⟩
    simp -implicitDefEqProofs only [go_sem,g1,hSn]
    (refine vif ?_ ?_<;>intro hlt)
    ·obtain ⟨x,hx1⟩:∃ x,xs[j]?=some x:=⟨xs[j]'(by omega),by simp⟩
     obtain ⟨e,he,hxe⟩:=hx.at hx1
     obtain ⟨c1,c2,c3⟩:=hxe.isA.facts
     have hw:=wrapS (i:=j) (by omega)
     (repeat' first|refine vw ?_ ?_<;>intro hq|refine vz ?_|simp -implicitDefEqProofs only [go_sem,g1,hS.idx he,c1,c2,c3])
     refine (rec x (List.mem_of_getElem? hx1) _ e hxe).use ?_
     cases hb:formedB nameB x with
     | false=>
      (repeat' first|refine vw ?_ ?_<;>intro hq|refine vz ?_|simp -implicitDefEqProofs only [go_sem,hb])
      exact ret_bool (formedBs_bad hx1 hb).symm
     | true=>
      (repeat' first|refine vw ?_ ?_<;>intro hq|refine vz ?_|simp -implicitDefEqProofs only [go_sem,hb,hw])
      exact ⟨j+1,vom,⟨vom,g1,formedBs_take hx1 h0 hb⟩,vsu⟩
    ·obtain rfl:j=xs.length:=by omega
     rw [List.take_length] at h0
     (repeat' first|refine vw ?_ ?_<;>intro hq|refine vz ?_|simp -implicitDefEqProofs only [go_sem])
     exact ret_bool h0.symm
   ·(repeat' first|refine vw ?_ ?_<;>intro hq|refine vz ?_|simp -implicitDefEqProofs only [go_sem,ba_list,dcf hn0])
    exact ret_bool rfl
  ·refine (nameRC nm).use ?_
   have hB:gB k nm=nameB nm:=if_pos (by omega)
   rw [hB]
   generalize nameB nm=nb
   cases nb with
   | false=>
    (repeat' first|refine vw ?_ ?_<;>intro hq|refine vz ?_|simp -implicitDefEqProofs only [go_sem,g0])
    exact ret_bool rfl
   | true=>
    rw [Bool.true_and]
    (repeat' first|refine vw ?_ ?_<;>intro hq|refine vz ?_|simp -implicitDefEqProofs only [go_sem,g0,hSn])
    refine vlp (ι:=Nat) (fun j=>[(1,.ptr 0 0 0),(5,(.sc (.int .i64 (j))))]) (fun j τ=>j<=xs.length/\τ.get 0=some (.cells 4 [.agg [(.sc (.int .i64 (k))),.sc (.string nm),(.sc (.int .i64 (i))),S]])/\formedBs nameB (xs.take j)=true) (fun j=>xs.length - j) (fun _=>rfl) 0 ?_ ?_ ?_
    ·exact vsu
    ·exact ⟨Nat.zero_le _,g0,rfl⟩
    rintro j τ' ⟨hj,g1,h0⟩
    simp -implicitDefEqProofs only [go_sem,g1,hSn]
    (refine vif ?_ ?_<;>intro hlt)
    ·obtain ⟨x,hx1⟩:∃ x,xs[j]?=some x:=⟨xs[j]'(by omega),by simp⟩
     obtain ⟨e,he,hxe⟩:=hx.at hx1
     obtain ⟨c1,c2,c3⟩:=hxe.isA.facts
     have hw:=wrapS (i:=j) (by omega)
     (repeat' first|refine vw ?_ ?_<;>intro hq|refine vz ?_|simp -implicitDefEqProofs only [go_sem,g1,hS.idx he,c1,c2,c3])
     refine (rec x (List.mem_of_getElem? hx1) _ e hxe).use ?_
     cases hb:formedB nameB x with
     | false=>
      (repeat' first|refine vw ?_ ?_<;>intro hq|refine vz ?_|simp -implicitDefEqProofs only [go_sem,hb])
      exact ret_bool (formedBs_bad hx1 hb).symm
     | true=>
      (repeat' first|refine vw ?_ ?_<;>intro hq|refine vz ?_|simp -implicitDefEqProofs only [go_sem,hb,hw])
      exact ⟨j+1,vom,⟨vom,g1,formedBs_take hx1 h0 hb⟩,vsu⟩
    ·obtain rfl:j=xs.length:=by omega
     rw [List.take_length] at h0
     (repeat' first|refine vw ?_ ?_<;>intro hq|refine vz ?_|simp -implicitDefEqProofs only [go_sem])
     exact ret_bool h0.symm
  ·have hB:gB k nm=decide (nm.size=0):=if_neg (by omega)
   rw [hB,<-nm_empty]
   by_cases hn0:nm=⟨#[]⟩
   ·rw [dct hn0,Bool.true_and]
    (repeat' first|refine vw ?_ ?_<;>intro hq|refine vz ?_|simp -implicitDefEqProofs only [go_sem,ba_list,dct hn0])
    refine vlp (ι:=Nat) (fun j=>[(1,.ptr 0 0 0),(5,(.sc (.int .i64 (j))))]) (fun j τ=>j<=xs.length/\τ.get 0=some (.cells 4 [.agg [(.sc (.int .i64 (k))),.sc (.string nm),(.sc (.int .i64 (i))),S]])/\formedBs nameB (xs.take j)=true) (fun j=>xs.length - j) (fun _=>rfl) 0 ?_ ?_ ?_
    ·exact vsu
    ·exact ⟨Nat.zero_le _,g0,rfl⟩
    rintro j τ' ⟨hj,g1,h0⟩
    simp -implicitDefEqProofs only [go_sem,g1,hSn]
    (refine vif ?_ ?_<;>intro hlt)
    ·obtain ⟨x,hx1⟩:∃ x,xs[j]?=some x:=⟨xs[j]'(by omega),by simp⟩
     obtain ⟨e,he,hxe⟩:=hx.at hx1
     obtain ⟨c1,c2,c3⟩:=hxe.isA.facts
     have hw:=wrapS (i:=j) (by omega)
     (repeat' first|refine vw ?_ ?_<;>intro hq|refine vz ?_|simp -implicitDefEqProofs only [go_sem,g1,hS.idx he,c1,c2,c3])
     refine (rec x (List.mem_of_getElem? hx1) _ e hxe).use ?_
     cases hb:formedB nameB x with
     | false=>
      (repeat' first|refine vw ?_ ?_<;>intro hq|refine vz ?_|simp -implicitDefEqProofs only [go_sem,hb])
      exact ret_bool (formedBs_bad hx1 hb).symm
     | true=>
      (repeat' first|refine vw ?_ ?_<;>intro hq|refine vz ?_|simp -implicitDefEqProofs only [go_sem,hb,hw])
      exact ⟨j+1,vom,⟨vom,g1,formedBs_take hx1 h0 hb⟩,vsu⟩
    ·obtain rfl:j=xs.length:=by omega
     rw [List.take_length] at h0
     (repeat' first|refine vw ?_ ?_<;>intro hq|refine vz ?_|simp -implicitDefEqProofs only [go_sem])
     exact ret_bool h0.symm
   ·(repeat' first|refine vw ?_ ?_<;>intro hq|refine vz ?_|simp -implicitDefEqProofs only [go_sem,ba_list,dcf hn0])
    exact ret_bool rfl
  ·refine (nameRC nm).use ?_
   have hB:gB k nm=nameB nm:=if_pos (by omega)
   rw [hB]
   generalize nameB nm=nb
   cases nb with
   | false=>
    (repeat' first|refine vw ?_ ?_<;>intro hq|refine vz ?_|simp -implicitDefEqProofs only [go_sem,g0])
    exact ret_bool rfl
   | true=>
    rw [Bool.true_and]
    (repeat' first|refine vw ?_ ?_<;>intro hq|refine vz ?_|simp -implicitDefEqProofs only [go_sem,g0,hSn])
    refine vlp (ι:=Nat) (fun j=>[(1,.ptr 0 0 0),(5,(.sc (.int .i64 (j))))]) (fun j τ=>j<=xs.length/\τ.get 0=some (.cells 4 [.agg [(.sc (.int .i64 (k))),.sc (.string nm),(.sc (.int .i64 (i))),S]])/\formedBs nameB (xs.take j)=true) (fun j=>xs.length - j) (fun _=>rfl) 0 ?_ ?_ ?_
    ·exact vsu
    ·exact ⟨Nat.zero_le _,g0,rfl⟩
    rintro j τ' ⟨hj,g1,h0⟩
    simp -implicitDefEqProofs only [go_sem,g1,hSn]
    (refine vif ?_ ?_<;>intro hlt)
    ·obtain ⟨x,hx1⟩:∃ x,xs[j]?=some x:=⟨xs[j]'(by omega),by simp⟩
     obtain ⟨e,he,hxe⟩:=hx.at hx1
     obtain ⟨c1,c2,c3⟩:=hxe.isA.facts
     have hw:=wrapS (i:=j) (by omega)
     (repeat' first|refine vw ?_ ?_<;>intro hq|refine vz ?_|simp -implicitDefEqProofs only [go_sem,g1,hS.idx he,c1,c2,c3])
     refine (rec x (List.mem_of_getElem? hx1) _ e hxe).use ?_
     cases hb:formedB nameB x with
     | false=>
      (repeat' first|refine vw ?_ ?_<;>intro hq|refine vz ?_|simp -implicitDefEqProofs only [go_sem,hb])
      exact ret_bool (formedBs_bad hx1 hb).symm
     | true=>
      (repeat' first|refine vw ?_ ?_<;>intro hq|refine vz ?_|simp -implicitDefEqProofs only [go_sem,hb,hw])
      exact ⟨j+1,vom,⟨vom,g1,formedBs_take hx1 h0 hb⟩,vsu⟩
    ·obtain rfl:j=xs.length:=by omega
     rw [List.take_length] at h0
     (repeat' first|refine vw ?_ ?_<;>intro hq|refine vz ?_|simp -implicitDefEqProofs only [go_sem])
     exact ret_bool h0.symm
  ·have hB:gB k nm=decide (nm.size=0):=if_neg (by omega)
   rw [hB,<-nm_empty]
   by_cases hn0:nm=⟨#[]⟩
   ·rw [dct hn0,Bool.true_and]
    (repeat' first|refine vw ?_ ?_<;>intro hq|refine vz ?_|simp -implicitDefEqProofs only [go_sem,ba_list,dct hn0])
    refine vlp (ι:=Nat) (fun j=>[(1,.ptr 0 0 0),(5,(.sc (.int .i64 (j))))]) (fun j τ=>j<=xs.length/\τ.get 0=some (.cells 4 [.agg [(.sc (.int .i64 (k))),.sc (.string nm),(.sc (.int .i64 (i))),S]])/\formedBs nameB (xs.take j)=true) (fun j=>xs.length - j) (fun _=>rfl) 0 ?_ ?_ ?_
    ·exact vsu
    ·exact ⟨Nat.zero_le _,g0,rfl⟩
    rintro j τ' ⟨hj,g1,h0⟩
    simp -implicitDefEqProofs only [go_sem,g1,hSn]
    (refine vif ?_ ?_<;>intro hlt)
    ·obtain ⟨x,hx1⟩:∃ x,xs[j]?=some x:=⟨xs[j]'(by omega),by simp⟩
     obtain ⟨e,he,hxe⟩:=hx.at hx1
     obtain ⟨c1,c2,c3⟩:=hxe.isA.facts
     have hw:=wrapS (i:=j) (by omega)
     (repeat' first|refine vw ?_ ?_<;>intro hq|refine vz ?_|simp -implicitDefEqProofs only [go_sem,g1,hS.idx he,c1,c2,c3])
     refine (rec x (List.mem_of_getElem? hx1) _ e hxe).use ?_
     cases hb:formedB nameB x with
     | false=>
      (repeat' first|refine vw ?_ ?_<;>intro hq|refine vz ?_|simp -implicitDefEqProofs only [go_sem,hb])
      exact ret_bool (formedBs_bad hx1 hb).symm
     | true=>
      (repeat' first|refine vw ?_ ?_<;>intro hq|refine vz ?_|simp -implicitDefEqProofs only [go_sem,hb,hw])
      exact ⟨j+1,vom,⟨vom,g1,formedBs_take hx1 h0 hb⟩,vsu⟩
    ·obtain rfl:j=xs.length:=by omega
     rw [List.take_length] at h0
     (repeat' first|refine vw ?_ ?_<;>intro hq|refine vz ?_|simp -implicitDefEqProofs only [go_sem])
     exact ret_bool h0.symm
   ·(repeat' first|refine vw ?_ ?_<;>intro hq|refine vz ?_|simp -implicitDefEqProofs only [go_sem,ba_list,dcf hn0])
    exact ret_bool rfl
  ·refine (nameRC nm).use ?_
   have hB:gB k nm=nameB nm:=if_pos (by omega)
   rw [hB]
   generalize nameB nm=nb
   cases nb with
   | false=>
    (repeat' first|refine vw ?_ ?_<;>intro hq|refine vz ?_|simp -implicitDefEqProofs only [go_sem,g0])
    exact ret_bool rfl
   | true=>
    rw [Bool.true_and]
    (repeat' first|refine vw ?_ ?_<;>intro hq|refine vz ?_|simp -implicitDefEqProofs only [go_sem,g0,hSn])
    refine vlp (ι:=Nat) (fun j=>[(1,.ptr 0 0 0),(5,(.sc (.int .i64 (j))))]) (fun j τ=>j<=xs.length/\τ.get 0=some (.cells 4 [.agg [(.sc (.int .i64 (k))),.sc (.string nm),(.sc (.int .i64 (i))),S]])/\formedBs nameB (xs.take j)=true) (fun j=>xs.length - j) (fun _=>rfl) 0 ?_ ?_ ?_
    ·exact vsu
    ·exact ⟨Nat.zero_le _,g0,rfl⟩
    rintro j τ' ⟨hj,g1,h0⟩
    simp -implicitDefEqProofs only [go_sem,g1,hSn]
    (refine vif ?_ ?_<;>intro hlt)
    ·obtain ⟨x,hx1⟩:∃ x,xs[j]?=some x:=⟨xs[j]'(by omega),by simp⟩
     obtain ⟨e,he,hxe⟩:=hx.at hx1
     obtain ⟨c1,c2,c3⟩:=hxe.isA.facts
     have hw:=wrapS (i:=j) (by omega)
     (repeat' first|refine vw ?_ ?_<;>intro hq|refine vz ?_|simp -implicitDefEqProofs only [go_sem,g1,hS.idx he,c1,c2,c3])
     refine (rec x (List.mem_of_getElem? hx1) _ e hxe).use ?_
     cases hb:formedB nameB x with
     | false=>
      (repeat' first|refine vw ?_ ?_<;>intro hq|refine vz ?_|simp -implicitDefEqProofs only [go_sem,hb])
      exact ret_bool (formedBs_bad hx1 hb).symm
     | true=>
      (repeat' first|refine vw ?_ ?_<;>intro hq|refine vz ?_|simp -implicitDefEqProofs only [go_sem,hb,hw])
      exact ⟨j+1,vom,⟨vom,g1,formedBs_take hx1 h0 hb⟩,vsu⟩
    ·obtain rfl:j=xs.length:=by omega
     rw [List.take_length] at h0
     (repeat' first|refine vw ?_ ?_<;>intro hq|refine vz ?_|simp -implicitDefEqProofs only [go_sem])
     exact ret_bool h0.symm
  ·have hB:gB k nm=decide (nm.size=0):=if_neg (by omega)
   rw [hB,<-nm_empty]
   by_cases hn0:nm=⟨#[]⟩
   ·rw [dct hn0,Bool.true_and]
    (repeat' first|refine vw ?_ ?_<;>intro hq|refine vz ?_|simp -implicitDefEqProofs only [go_sem,ba_list,dct hn0])
    refine vlp (ι:=Nat) (fun j=>[(1,.ptr 0 0 0),(5,(.sc (.int .i64 (j))))]) (fun j τ=>j<=xs.length/\τ.get 0=some (.cells 4 [.agg [(.sc (.int .i64 (k))),.sc (.string nm),(.sc (.int .i64 (i))),S]])/\formedBs nameB (xs.take j)=true) (fun j=>xs.length - j) (fun _=>rfl) 0 ?_ ?_ ?_
    ·exact vsu
    ·exact ⟨Nat.zero_le _,g0,rfl⟩
    rintro j τ' ⟨hj,g1,h0⟩
    simp -implicitDefEqProofs only [go_sem,g1,hSn]
    (refine vif ?_ ?_<;>intro hlt)
    ·obtain ⟨x,hx1⟩:∃ x,xs[j]?=some x:=⟨xs[j]'(by omega),by simp⟩
     obtain ⟨e,he,hxe⟩:=hx.at hx1
     obtain ⟨c1,c2,c3⟩:=hxe.isA.facts
     have hw:=wrapS (i:=j) (by omega)
     (repeat' first|refine vw ?_ ?_<;>intro hq|refine vz ?_|simp -implicitDefEqProofs only [go_sem,g1,hS.idx he,c1,c2,c3])
     refine (rec x (List.mem_of_getElem? hx1) _ e hxe).use ?_
     cases hb:formedB nameB x with
     | false=>
      (repeat' first|refine vw ?_ ?_<;>intro hq|refine vz ?_|simp -implicitDefEqProofs only [go_sem,hb])
      exact ret_bool (formedBs_bad hx1 hb).symm
     | true=>
      (repeat' first|refine vw ?_ ?_<;>intro hq|refine vz ?_|simp -implicitDefEqProofs only [go_sem,hb,hw])
      exact ⟨j+1,vom,⟨vom,g1,formedBs_take hx1 h0 hb⟩,vsu⟩
    ·obtain rfl:j=xs.length:=by omega
     rw [List.take_length] at h0
     (repeat' first|refine vw ?_ ?_<;>intro hq|refine vz ?_|simp -implicitDefEqProofs only [go_sem])
     exact ret_bool h0.symm
   ·(repeat' first|refine vw ?_ ?_<;>intro hq|refine vz ?_|simp -implicitDefEqProofs only [go_sem,ba_list,dcf hn0])
    exact ret_bool rfl
  ·refine (nameRC nm).use ?_
   have hB:gB k nm=nameB nm:=if_pos (by omega)
   rw [hB]
   generalize nameB nm=nb
   cases nb with
   | false=>
    (repeat' first|refine vw ?_ ?_<;>intro hq|refine vz ?_|simp -implicitDefEqProofs only [go_sem,g0])
    exact ret_bool rfl
   | true=>
    rw [Bool.true_and]
    (repeat' first|refine vw ?_ ?_<;>intro hq|refine vz ?_|simp -implicitDefEqProofs only [go_sem,g0,hSn])
    refine vlp (ι:=Nat) (fun j=>[(1,.ptr 0 0 0),(5,(.sc (.int .i64 (j))))]) (fun j τ=>j<=xs.length/\τ.get 0=some (.cells 4 [.agg [(.sc (.int .i64 (k))),.sc (.string nm),(.sc (.int .i64 (i))),S]])/\formedBs nameB (xs.take j)=true) (fun j=>xs.length - j) (fun _=>rfl) 0 ?_ ?_ ?_
    ·exact vsu
    ·exact ⟨Nat.zero_le _,g0,rfl⟩
    rintro j τ' ⟨hj,g1,h0⟩
    simp -implicitDefEqProofs only [go_sem,g1,hSn]
    (refine vif ?_ ?_<;>intro hlt)
    ·obtain ⟨x,hx1⟩:∃ x,xs[j]?=some x:=⟨xs[j]'(by omega),by simp⟩
     obtain ⟨e,he,hxe⟩:=hx.at hx1
     obtain ⟨c1,c2,c3⟩:=hxe.isA.facts
     have hw:=wrapS (i:=j) (by omega)
     (repeat' first|refine vw ?_ ?_<;>intro hq|refine vz ?_|simp -implicitDefEqProofs only [go_sem,g1,hS.idx he,c1,c2,c3])
     refine (rec x (List.mem_of_getElem? hx1) _ e hxe).use ?_
     cases hb:formedB nameB x with
     | false=>
      (repeat' first|refine vw ?_ ?_<;>intro hq|refine vz ?_|simp -implicitDefEqProofs only [go_sem,hb])
      exact ret_bool (formedBs_bad hx1 hb).symm
     | true=>
      (repeat' first|refine vw ?_ ?_<;>intro hq|refine vz ?_|simp -implicitDefEqProofs only [go_sem,hb,hw])
      exact ⟨j+1,vom,⟨vom,g1,formedBs_take hx1 h0 hb⟩,vsu⟩
    ·obtain rfl:j=xs.length:=by omega
     rw [List.take_length] at h0
     (repeat' first|refine vw ?_ ?_<;>intro hq|refine vz ?_|simp -implicitDefEqProofs only [go_sem])
     exact ret_bool h0.symm
 ·have hno:¬ (¬ argsI k=-2/\(0<=argsI k->(xs.length:Int)=argsI k)/\(i=0\/k=1)/\-2147483648<=i/\i<=2147483648):=by
   intro hc
   apply hgA
   simp only [gA,har,Bool.and_eq_true,Bool.not_eq_true',Bool.or_eq_false_iff,Bool.and_eq_false_iff,Bool.or_eq_true,decide_eq_true_eq,decide_eq_false_iff_not,Bool.not_eq_false']
   omega
  have hgF:gA k i xs.length=false:=by simpa using hgA
  rw [hgF,Bool.false_and]
  (repeat' first|refine vw ?_ ?_<;>intro hq|refine vz ?_|simp -implicitDefEqProofs only [go_sem,g0,hSn])
  all_goals exact ret_bool rfl
theorem formedRC:∀ {x:Ex} {w:WD} {v:AVal},IsEx x v->GivesV (EE w) 133 [v] (.sc (.bool (formedB nameB x)))
 | .mk _ _ _ xs,_,_,h=>formedRStep h fun y hy _ _ h'=>formedRC (x:=y) h'
termination_by x=>sizeOf x
decreasing_by have:=List.sizeOf_lt_of_mem hy; simp only [Ex.mk.sizeOf_spec]; omega
def mT (n d:Nat) (w:Bool):AVal:=.tuple [(.sc (.int .i64 (n))),(.sc (.int .i64 (d))),(.sc (.bool (w)))]
theorem sizeRStep {k i:Int} {nm:ByteArray} {xs:List Ex} {w:WD} {v:AVal} (h:IsEx (.mk k nm i xs) v) (hb:nodesE (.mk k nm i xs)<=1099511627776) (rec:∀ y∈xs,∀ (w:WD) (v:AVal),IsEx y v->GivesV (EE w) 155 [v] (mT (nodesE y) (depthE y) (fewE y))):
  GivesV (EE w) 155 [v] (mT (nodesE (.mk k nm i xs)) (depthE (.mk k nm i xs)) (fewE (.mk k nm i xs))):=by
 have hwf:=h.wf
 simp only [IsEx] at h
 obtain ⟨S,els,rfl,hS,hx,hk,hi,hn,hl⟩:=h
 have hlen:=hx.len
 have hSn:=fun σ:AStore=>hS.lenN hlen (σ:=σ)
 have kS:=hS.fit
 have cS:=hS.cells
 have iS:=hS.isCell
 have hbs:nodesEs xs<=1099511627776:=by simp only [nodesE] at hb; omega
 have hdn:=depth_nodesEs xs
 refine GivesV.of gWF (.cons _ _ hwf .nil) 2 ?_
 refine of_155 rfl rfl rfl (by kernel_rfl) ?_
 simp -implicitDefEqProofs only [go_sem,kS,cS,iS]
 have g0:(empty.alloc (.cells 4 [.agg [(.sc (.int .i64 (k))),.sc (.string nm),(.sc (.int .i64 (i))),S]])).get 0=some (.cells 4 [.agg [(.sc (.int .i64 (k))),.sc (.string nm),(.sc (.int .i64 (i))),S]]):=by rw [AStore.get_alloc]; rfl
 generalize empty.alloc (.cells 4 [.agg [(.sc (.int .i64 (k))),.sc (.string nm),(.sc (.int .i64 (i))),S]])=τ at g0 ⊢
 ((try (refine Z_seq ?_; (try simp -implicitDefEqProofs only [go_sem]))); refine Z_draw (by kernel_rfl) [0,1,2,3,4,5,6] [(6,63),(5,16),(4,0),(3,7),(2,3),(1,1),(0,0)] (by kernel_rfl) (by kernel_rfl) ?_)
 have hd4:decide ((xs.length:Int)<=4)=decide (xs.length<=4):=by (rw [Bool.eq_iff_iff]; simp only [Bool.or_eq_true,Bool.and_eq_true,Bool.not_eq_true',decide_eq_true_eq,decide_eq_false_iff_not,Bool.true_eq_false,Bool.false_eq_true,iff_true,true_iff,iff_false,false_iff]; omega)
 simp -implicitDefEqProofs only [go_sem,g0,hSn,hd4]
 refine vlp (ι:=Nat) (fun j=>[(1,.ptr 0 0 0),(5,(.sc (.int .i64 (1+nodesEs (xs.take j))))),(6,(.sc (.int .i64 (depthEs (xs.take j))))),(7,(.sc (.bool (decide (xs.length<=4) && fewEs (xs.take j))))),(8,(.sc (.int .i64 (j))))]) (fun j τ=>j<=xs.length/\τ.get 0=some (.cells 4 [.agg [(.sc (.int .i64 (k))),.sc (.string nm),(.sc (.int .i64 (i))),S]])) (fun j=>xs.length - j) (fun _=>rfl) 0 ?_ ?_ ?_
 ·simp [subE,look?,nodesEs,depthEs,fewEs]
 ·exact ⟨Nat.zero_le _,g0⟩
 rintro j τ' ⟨hj,g1⟩
 simp -implicitDefEqProofs only [go_sem,g1,hSn]
 (refine vif ?_ ?_<;>intro hlt)
 ·obtain ⟨x,hx1⟩:∃ x,xs[j]?=some x:=⟨xs[j]'(by omega),by simp⟩
  obtain ⟨e,he,hxe⟩:=hx.at hx1
  obtain ⟨c1,c2,c3⟩:=hxe.isA.facts
  have hw:=wrapS (i:=j) (by omega)
  (repeat' first|refine vw ?_ ?_<;>intro hq|refine vz ?_|simp -implicitDefEqProofs only [go_sem,g1,hS.idx he,c1,c2,c3])
  refine (rec x (List.mem_of_getElem? hx1) _ e hxe).use ?_
  have hn1:=nodesEs_take hx1
  have hd1:=depthEs_take hx1
  have hf1:=fewEs_take hx1
  have hn2:=nodesEs_le (l:=xs) (i:=j+1)
  have hwn:IntKind.i64.wrap (1+(nodesEs (xs.take j):Int)+(nodesE x:Int))=1+(nodesEs (xs.take (j+1)):Int):=by rw [wrap64 (by omega) (by omega)]; omega
  have hfe:(decide (xs.length<=4) && fewEs (xs.take (j+1)))=((decide (xs.length<=4) && fewEs (xs.take j)) && fewE x):=by rw [hf1,Bool.and_assoc]
  have hmx:=mx_nat (a:=depthEs (xs.take j)) (b:=depthE x)
  rw [<-hd1] at hmx
  cases hb0:(decide (xs.length<=4) && fewEs (xs.take j)) with
  | false=>
   rw [hb0,Bool.false_and] at hfe
   (repeat' first|refine vw ?_ ?_<;>intro hq|refine vz ?_|simp -implicitDefEqProofs only [go_sem,mT,hwn,hmx,hw])
   refine ⟨j+1,vom,⟨vom,g1⟩,?_⟩
   dsimp only
   rw [hfe]
   exact vsu
  | true=>
   rw [hb0,Bool.true_and] at hfe
   (repeat' first|refine vw ?_ ?_<;>intro hq|refine vz ?_|simp -implicitDefEqProofs only [go_sem,mT,hwn,hmx,hw])
   refine ⟨j+1,vom,⟨vom,g1⟩,?_⟩
   dsimp only
   rw [hfe]
   exact vsu
 ·obtain rfl:j=xs.length:=by omega
  have hwd:IntKind.i64.wrap ((depthEs xs:Int)+1)=1+(depthEs xs:Int):=by rw [wrap64 (by omega) (by omega)]; omega
  have ht:=List.take_length (l:=xs)
  (repeat' first|refine vw ?_ ?_<;>intro hq|refine vz ?_|simp -implicitDefEqProofs only [go_sem,ht,hwd])
  refine ⟨_,rfl,?_⟩
  simp only [nodesE,depthE,fewE,mT]
  rfl
theorem sizeRC:∀ {x:Ex} {w:WD} {v:AVal},IsEx x v->nodesE x<=1099511627776->GivesV (EE w) 155 [v] (mT (nodesE x) (depthE x) (fewE x))
  | .mk _ _ _ xs, _, _, h, hb => sizeRStep h hb fun y hy _ _ h' => sizeRC (x := y) h' (by
      obtain ⟨j,hj,rfl⟩:=List.mem_iff_getElem.1 hy
      have:=nodesE_at (List.getElem?_eq_getElem hj)
      simp only [nodesE] at hb; omega)
termination_by x=>sizeOf x
decreasing_by have:=List.sizeOf_lt_of_mem hy; simp only [Ex.mk.sizeOf_spec]; omega
theorem smallRC {x:Ex} {w:WD} {v:AVal} (h:IsEx x v) (hb:nodesE x<=1099511627776):GivesV (EE w) 158 [v] (.sc (.bool (smallE x))):=by
 obtain ⟨c1,c2,c3⟩:=h.isA.facts
 have cc:=h.cellsOk
 have hfit:v.fit=true:=by obtain ⟨cs,rfl,_⟩:=h.isA; rfl
 have hZ:=fun w:WD=>sizeRC (w:=w) h hb
 refine GivesV.of gWF (.cons _ _ h.wf .nil) 1 ?_
 refine of_158 rfl rfl rfl (by kernel_rfl) ?_
 simp -implicitDefEqProofs only [go_sem,c1,c2,c3,cc,hfit]
 refine (hZ _).use ?_
 (repeat' first|refine vw ?_ ?_<;>intro hq|refine vz ?_|simp -implicitDefEqProofs only [go_sem,mT])
 all_goals (refine ret_bool ?_; unfold smallE; first|(rw [dct (by omega:nodesE x<=400),dct (by omega:depthE x<=30)]; rfl)|(rw [dcf (by omega:¬ depthE x<=30)]; simp; done)|(rw [dcf (by omega:¬ nodesE x<=400)]; simp; done))
theorem checkExpRC {w:WD} {x:Ex} {v:AVal} (h:IsEx x v) (hb:nodesE x<=1099511627776):GivesV (EE w) 136 [v] (.sc (.int .i64 (checkE nameB x))):=by
 obtain ⟨c1,c2,c3⟩:=h.isA.facts
 have cc:=h.cellsOk
 have hfit:v.fit=true:=by obtain ⟨cs,rfl,_⟩:=h.isA; rfl
 refine GivesV.of gWF (.cons _ _ h.wf .nil) 1 ?_
 refine of_136 rfl rfl rfl (by kernel_rfl) ?_
 simp -implicitDefEqProofs only [go_sem,c1,c2,c3,cc,hfit]
 have g0:(empty.alloc (.cells 4 [v])).get 0=some (.cells 4 [v]):=by rw [AStore.get_alloc]; rfl
 generalize empty.alloc (.cells 4 [v])=τ at g0 ⊢
 refine (formedRC h).use ?_
 unfold checkE
 cases hf:formedB nameB x with
 | false=>
  (repeat' first|refine vw ?_ ?_<;>intro hq|refine vz ?_|simp -implicitDefEqProofs only [go_sem,hf])
  exact ret_int rfl
 | true=>
  (repeat' first|refine vw ?_ ?_<;>intro hq|refine vz ?_|simp -implicitDefEqProofs only [go_sem,hf,g0,c1,c2,c3,cc,hfit])
  refine (smallRC h hb).use ?_
  cases hs:smallE x with
  | false=>
   (repeat' first|refine vw ?_ ?_<;>intro hq|refine vz ?_|simp -implicitDefEqProofs only [go_sem,hs])
   exact ret_int rfl
  | true=>
   (repeat' first|refine vw ?_ ?_<;>intro hq|refine vz ?_|simp -implicitDefEqProofs only [go_sem,hs])
   exact ret_int rfl
structure IsSc (g o:List ByteArray) (l:List Fc) (s:AVal):Prop where
 ex:∃ G O F els,s=.agg [G,O,F]/\IsD 1 G (g.map sA)/\IsD 1 O (o.map sA)/\IsD 3 F els/\IsFcs l els/\g.length<=281474976710656/\o.length<=281474976710656/\els.length<=281474976710656
theorem fcOf_at {l:List Fc} {i:Nat} {f:Fc} {nm:ByteArray} (h:l[i]?=some f) (h0:fcOf (l.take i) nm=none):fcOf (l.take (i+1)) nm=if f.nm=nm then some f else none:=by
 obtain ⟨hj,he⟩:=List.getElem?_eq_some_iff.1 h
 rw [List.take_succ_eq_append_getElem hj,he,fcOf_snoc,h0]
theorem fcOf_more {l:List Fc} {i:Nat} {f:Fc} {nm:ByteArray} (h:fcOf (l.take i) nm=some f):fcOf l nm=some f:=by
 unfold fcOf at h ⊢
 rw [<-List.take_append_drop i l,List.find?_append,h]; rfl
theorem expRStep {k i:Int} {nm:ByteArray} {xs:List Ex} {w:WD} {v s:AVal} {g o:List ByteArray} {l:List Fc} (h:IsEx (.mk k nm i xs) v) (hs:IsSc g o l s)
  (rec:∀ y∈xs,∀ (w:WD) (v:AVal),IsEx y v->GivesV (EE w) 159 [s,v] (.sc (.int .i64 (expE g o l y)))):
  GivesV (EE w) 159 [s,v] (.sc (.int .i64 (expE g o l (.mk k nm i xs)))):=by
 have hwf:=h.wf
 simp only [IsEx] at h
 obtain ⟨S,els,rfl,hS,hx,hk,hi,hn,hl⟩:=h
 have hlen:=hx.len
 have hSn:=fun σ:AStore=>hS.lenN hlen (σ:=σ)
 have kS:=hS.fit
 have cS:=hS.cells
 have iS:=hS.isCell
 obtain ⟨G,O,F,fels,rfl,hG,hO,hF,hFs,lg,lo,lf⟩:=hs
 have kG:=hG.fit
 have cG:=hG.cells
 have iG:=hG.isCell
 have kO:=hO.fit
 have cO:=hO.cells
 have iO:=hO.isCell
 have kF:=hF.fit
 have cF:=hF.cells
 have iF:=hF.isCell
 have hFn:∀ σ:AStore,aLen (.slice 0) F σ=some (.sc (.int .i64 (l.length))):=fun σ=>hF.lenN hFs.len
 have hsw:WF 0 (.agg [G,O,F]):=.agg _ (.cons _ _ (hG.wf (wf_sA _)) (.cons _ _ (hO.wf (wf_sA _)) (.cons _ _ (hF.wf hFs.wf) .nil)))
 refine GivesV.of gWF (.cons _ _ hsw (.cons _ _ hwf .nil)) 1 ?_
 refine of_159 rfl rfl rfl (by kernel_rfl) ?_
 simp -implicitDefEqProofs only [go_sem,kS,cS,iS,kG,cG,iG,kO,cO,iO,kF,cF,iF]
 have g0:((empty.alloc (.cells 3 [.agg [G,O,F]])).alloc (.cells 4 [.agg [(.sc (.int .i64 (k))),.sc (.string nm),(.sc (.int .i64 (i))),S]])).get 0=some (.cells 3 [.agg [G,O,F]]):=get_alloc_old (by rw [AStore.get_alloc]; rfl)
 have g1:((empty.alloc (.cells 3 [.agg [G,O,F]])).alloc (.cells 4 [.agg [(.sc (.int .i64 (k))),.sc (.string nm),(.sc (.int .i64 (i))),S]])).get 1=some (.cells 4 [.agg [(.sc (.int .i64 (k))),.sc (.string nm),(.sc (.int .i64 (i))),S]]):=by rw [AStore.get_alloc]; rfl
 generalize (empty.alloc (.cells 3 [.agg [G,O,F]])).alloc (.cells 4 [.agg [(.sc (.int .i64 (k))),.sc (.string nm),(.sc (.int .i64 (i))),S]])=τ at g0 g1 ⊢
 refine vlp (ι:=Nat) (fun j=>[(2,.ptr 0 0 0),(3,.ptr 1 0 0),(5,(.sc (.int .i64 (j))))]) (fun j τ=>j<=xs.length/\τ.get 0=some (.cells 3 [.agg [G,O,F]])/\τ.get 1=some (.cells 4 [.agg [(.sc (.int .i64 (k))),.sc (.string nm),(.sc (.int .i64 (i))),S]])/\expEs g o l (xs.take j)=0) (fun j=>xs.length - j) (fun _=>rfl) 0 ?_ ?_ ?_
 ·exact vsu
 ·exact ⟨Nat.zero_le _,g0,g1,rfl⟩
 clear g0 g1
 rintro j τ ⟨hj,g0,g1,h0⟩
 simp -implicitDefEqProofs only [go_sem,g1,hSn]
 (refine vif ?_ ?_<;>intro hlt)
 ·obtain ⟨x,hx1⟩:∃ x,xs[j]?=some x:=⟨xs[j]'(by omega),by simp⟩
  obtain ⟨e,he,hxe⟩:=hx.at hx1
  obtain ⟨c1,c2,c3⟩:=hxe.isA.facts
  have hw:=wrapS (i:=j) (by omega)
  (repeat' first|refine vw ?_ ?_<;>intro hq|refine vz ?_|simp -implicitDefEqProofs only [go_sem])
  ((try (refine Z_seq ?_; (try simp -implicitDefEqProofs only [go_sem]))); refine Z_draw (by kernel_rfl) [0,1,2,3,4,5,6,7] [(7,127),(6,63),(5,30),(4,14),(3,0),(2,2),(1,0),(0,0)] (by kernel_rfl) (by kernel_rfl) ?_)
  simp -implicitDefEqProofs only [go_sem,g0,g1,hS.idx he,c1,c2,c3,kG,cG,iG,kO,cO,iO,kF,cF,iF]
  refine (rec x (List.mem_of_getElem? hx1) _ e hxe).useD ?_
  simp -implicitDefEqProofs only [go_sem]
  by_cases hz:expE g o l x=0
  ·(repeat' first|refine vw ?_ ?_<;>intro hq|refine vz ?_|simp -implicitDefEqProofs only [go_sem,dct hz,hw])
   exact ⟨j+1,vom,⟨vom,g0,g1,expEs_take hx1 h0 hz⟩,vsu⟩
  ·(repeat' first|refine vw ?_ ?_<;>intro hq|refine vz ?_|simp -implicitDefEqProofs only [go_sem,dcf hz])
   exact ret_int (by rw [expE_mk,expEs_eq hx1 h0 hz,if_neg hz])
 ·obtain rfl:j=xs.length:=by omega
  rw [List.take_length] at h0
  rw [expE_mk,if_pos h0]
  by_cases k2:k=2
  ·rw [if_pos k2]
   simp -implicitDefEqProofs only [go_sem,g0,g1,dct k2,kG,cG,iG,kO,cO,iO,kF,cF,iF]
   (repeat' first|refine vw ?_ ?_<;>intro hq|refine vz ?_|simp -implicitDefEqProofs only [go_sem,g0,g1,dct k2,kG,cG,iG,kO,cO,iO,kF,cF,iF])
   refine (inC hG (by omega) nm).use ?_
   by_cases m1:nm∈g
   ·rw [dct m1]
    (repeat' first|refine vw ?_ ?_<;>intro hq|refine vz ?_|simp -implicitDefEqProofs only [go_sem,g0,g1,dct k2])
    all_goals exact ret_int (by rw [if_pos (.inl m1)])
   ·rw [dcf m1]
    (repeat' first|refine vw ?_ ?_<;>intro hq|refine vz ?_|simp -implicitDefEqProofs only [go_sem,g0,g1,dct k2,kG,cG,iG,kO,cO,iO,kF,cF,iF])
    refine (inC hO (by omega) nm).use ?_
    by_cases m2:nm∈o
    ·rw [dct m2]
     (repeat' first|refine vw ?_ ?_<;>intro hq|refine vz ?_|simp -implicitDefEqProofs only [go_sem,g0,g1,dct k2])
     all_goals exact ret_int (by rw [if_pos (.inr m2)])
    ·rw [dcf m2]
     (repeat' first|refine vw ?_ ?_<;>intro hq|refine vz ?_|simp -implicitDefEqProofs only [go_sem,g0,g1,dct k2])
     all_goals exact ret_int (by rw [if_neg (fun h=>h.elim m1 m2)])
  ·rw [if_neg k2]
   by_cases k3:k=19
   ·rw [if_pos k3]
    simp -implicitDefEqProofs only [go_sem,g0,g1,dcf k2,dct k3]
    (repeat' first|refine vw ?_ ?_<;>intro hq|refine vz ?_|simp -implicitDefEqProofs only [go_sem,g0,g1,dcf k2,dct k3,kG,cG,iG,kO,cO,iO,kF,cF,iF,hFn])
    refine vlp (ι:=Nat) (fun i=>[(2,.ptr 0 0 0),(3,.ptr 1 0 0),(7,(.sc (.int .i64 (i))))]) (fun i' τ=>i'<=l.length/\τ.get 0=some (.cells 3 [.agg [G,O,F]])/\τ.get 1=some (.cells 4 [.agg [(.sc (.int .i64 (k))),.sc (.string nm),(.sc (.int .i64 (i))),S]])/\fcOf (l.take i') nm=none) (fun i=>l.length - i) (fun _=>rfl) 0 ?_ ?_ ?_
    ·exact vsu
    ·exact ⟨Nat.zero_le _,g0,g1,rfl⟩
    clear g0 g1
    rintro i' τ' ⟨hi',g0,g1,hn0⟩
    simp -implicitDefEqProofs only [go_sem,g0,hFn,kG,cG,iG,kO,cO,iO,kF,cF,iF]
    (refine vif ?_ ?_<;>intro hilt)
    ·obtain ⟨f,hf⟩:∃ f,l[i']?=some f:=⟨l[i']'(by omega),by simp⟩
     obtain ⟨e,he,hfe⟩:=hFs.at' i' f hf
     obtain ⟨SP,SB,eb,rfl,hP,hB,hb',y1,y2,y3,y4⟩:=hfe
     have hPn:∀ σ:AStore,aLen (.slice 0) SP σ=some (.sc (.int .i64 (f.ps.length))):=fun σ=>by have:=hP.len (σ:=σ); rwa [List.length_map] at this
     have hw:=wrapS (i:=i') (by have:=hFs.len; omega)
     have hft:=fcOf_at hf hn0
     (repeat' first|refine vw ?_ ?_<;>intro hq|refine vz ?_|simp -implicitDefEqProofs only [go_sem])
     ((try (refine Z_seq ?_; (try simp -implicitDefEqProofs only [go_sem]))); refine Z_draw (by kernel_rfl) [0,1,2,3,4,5,6,7,8] [(8,255),(7,64),(6,0),(5,31),(4,15),(3,7),(2,0),(1,1),(0,0)] (by kernel_rfl) (by kernel_rfl) ?_)
     simp -implicitDefEqProofs only [go_sem,g0,g1,hF.idx he,kG,cG,iG,kO,cO,iO,kF,cF,iF,ba_list]
     by_cases hnm:f.nm=nm
     ·rw [if_pos hnm] at hft
      have hfo:=fcOf_more hft
      (try simp -implicitDefEqProofs only [go_sem,dct hnm])
      refine vzt ?_
      simp -implicitDefEqProofs only [go_sem]
      refine Z_seq ?_
      simp -implicitDefEqProofs only [go_sem]
      ((try (refine Z_seq ?_; (try simp -implicitDefEqProofs only [go_sem]))); refine Z_draw (by kernel_rfl) [0,1,2,3,4,5,6,7,8,9,10] [(10,1023),(9,384),(8,128),(7,0),(6,63),(5,31),(4,15),(3,7),(2,0),(1,1),(0,0)] (by kernel_rfl) (by kernel_rfl) ?_)
      by_cases hps:f.ps.length=xs.length
      ·have hps':(f.ps.length:Int)=(xs.length:Int):=by omega
       simp -implicitDefEqProofs only [go_sem,g0,g1,hF.idx he,kG,cG,iG,kO,cO,iO,kF,cF,iF,hPn,hSn,dct hps']
       (repeat' first|refine vw ?_ ?_<;>intro hq|refine vz ?_|simp -implicitDefEqProofs only [go_sem,dct hps'])
       all_goals exact ret_int (by rw [hfo]; simp only []; rw [if_pos hps])
      ·have hps':¬ (f.ps.length:Int)=(xs.length:Int):=by omega
       simp -implicitDefEqProofs only [go_sem,g0,g1,hF.idx he,kG,cG,iG,kO,cO,iO,kF,cF,iF,hPn,hSn,dcf hps']
       (repeat' first|refine vw ?_ ?_<;>intro hq|refine vz ?_|simp -implicitDefEqProofs only [go_sem,dcf hps'])
       all_goals exact ret_int (by rw [hfo]; simp only []; rw [if_neg hps])
     ·rw [if_neg hnm] at hft
      (try simp -implicitDefEqProofs only [go_sem,dcf hnm])
      refine vzf ?_
      (repeat' first|refine vw ?_ ?_<;>intro hq|refine vz ?_|simp -implicitDefEqProofs only [go_sem,hw])
      exact ⟨i'+1,vom,⟨vom,g0,g1,hft⟩,vsu⟩
    ·obtain rfl:i'=l.length:=by omega
     rw [List.take_length] at hn0
     (repeat' first|refine vw ?_ ?_<;>intro hq|refine vz ?_|simp -implicitDefEqProofs only [go_sem])
     exact ret_int (by rw [hn0])
   ·rw [if_neg k3]
    simp -implicitDefEqProofs only [go_sem,g0,g1,dcf k2]
    (repeat' first|refine vw ?_ ?_<;>intro hq|refine vz ?_|simp -implicitDefEqProofs only [go_sem,g0,g1,dcf k2,dcf k3])
    all_goals exact ret_int rfl
theorem expRC:∀ {x:Ex} {w:WD} {v s:AVal} {g o:List ByteArray} {l:List Fc},IsEx x v->IsSc g o l s->GivesV (EE w) 159 [s,v] (.sc (.int .i64 (expE g o l x)))
 | .mk _ _ _ xs,_,_,_,_,_,_,h,hs=>expRStep h hs fun y hy _ _ h'=>expRC (x:=y) h' hs
termination_by x=>sizeOf x
decreasing_by have:=List.sizeOf_lt_of_mem hy; simp only [Ex.mk.sizeOf_spec]; omega
theorem only_self {σ:AStore} {b:Nat} {x:ABlk} (h:σ.get b=some x):(σ.only [b]).get b=some x:=by
 have hlt:=AStore.lt_of_get h
 unfold AStore.only AStore.get
 have h1:Nat.blt b σ.next=true:=by rw [Nat.blt_eq]; exact hlt
 simp only [h1]
 unfold onlyT
 simp only [h,onlyT]
 rw [T.get_put _ _ _ _ _ (lt_two_pow_sub _),if_pos rfl]
/-- The names that a scope holds as its own: data, or a slice in local memory. -/
def HasO (σ:AStore) (O:AVal) (o:List ByteArray):Prop:=IsD 1 O (o.map sA)\/∃ b,O=.slice b 0 o.length/\σ.get b=some (.cells 1 (o.map sA))
theorem smallAll0C {w:WD} {L:AVal} (hL:IsD 3 L []):GivesV (EE w) 98 [L] (.sc (.bool (true))):=by
 refine GivesV.of gWF (.cons _ _ (hL.wf .nil) .nil) 1 ?_
 have hLn:∀ σ:AStore,aLen (.slice 0) L σ=some (.sc (.int .i64 (0))):=fun σ=>hL.len (σ:=σ)
 refine of_98 rfl rfl rfl (by kernel_rfl) ?_
 simp -implicitDefEqProofs only [go_sem,hLn]
 (try (repeat' first|refine vw ?_ ?_<;>intro hq|refine vz ?_|simp -implicitDefEqProofs only [go_sem,hLn]))
 refine vlp (ι:=Unit) (fun _=>[(0,L),(2,(.sc (.bool (false)))),(3,(.sc (.int .i64 (0)))),(4,(.sc (.int .i64 (0))))]) (fun _ σ=>True) (fun _=>0) (fun _=>rfl) () ?_ ?_ ?_
 ·exact vsu
 ·trivial
 rintro _ σ _
 have e0:decide ((0:Int) < 0)=false:=rfl
 simp -implicitDefEqProofs only [go_sem,e0,hLn]
 (try (repeat' first|refine vw ?_ ?_<;>intro hq|refine vz ?_|simp -implicitDefEqProofs only [go_sem,e0,hLn]))
 all_goals exact ⟨_,rfl,rfl⟩
theorem checkFuncsRC {w:WD} {L:AVal} {els:List AVal} {fs:List Fc} (hL:IsD 3 L els) (hl:IsFcs fs els) (hlen:els.length<=281474976710656) (hb:fs.length<=0):
  GivesV (EE w) 64 [L] (.sc (.int .i64 (checkF nameB fs))):=by
 obtain ⟨rfl,rfl⟩:=fc_nil hl hb
 rw [show checkF nameB []=0 from rfl]
 refine GivesV.of gWF (.cons _ _ (hL.wf .nil) .nil) 1 ?_
 have hLn:∀ σ:AStore,aLen (.slice 0) L σ=some (.sc (.int .i64 (0))):=fun σ=>hL.len (σ:=σ)
 refine of_64 rfl rfl rfl (by kernel_rfl) ?_
 simp -implicitDefEqProofs only [go_sem,hLn]
 (try (repeat' first|refine vw ?_ ?_<;>intro hq|refine vz ?_|simp -implicitDefEqProofs only [go_sem,hLn]))
 refine vlp (ι:=Unit) (fun _=>[(0,L),(2,(.sc (.int .i64 (0)))),(3,(.sc (.int .i64 (0))))]) (fun _ σ=>True) (fun _=>0) (fun _=>rfl) () ?_ ?_ ?_
 ·exact vsu
 ·trivial
 rintro _ σ _
 have e0:decide ((0:Int) < 0)=false:=rfl
 simp -implicitDefEqProofs only [go_sem,e0,hLn]
 (try (repeat' first|refine vw ?_ ?_<;>intro hq|refine vz ?_|simp -implicitDefEqProofs only [go_sem,e0,hLn]))
 refine (smallAll0C hL).use ?_
 (repeat' first|refine vw ?_ ?_<;>intro hq|refine vz ?_|simp -implicitDefEqProofs only [go_sem])
 exact ⟨_,rfl,rfl⟩
theorem refFuncsC {w:WD} {L S:AVal} {els:List AVal} {fs:List Fc} {g:List ByteArray} (hL:IsD 3 L els) (hl:IsFcs fs els) (hlen:els.length<=281474976710656) (hb:fs.length<=0)
  (hS:IsD 1 S (g.map sA)) (hg:g.length<=281474976710656):
  GivesV (EE w) 104 [L,S] (.tuple [(.sc (.int .i64 ((funcsP nameB fs g).1))),(.sc (.int .i64 ((funcsP nameB fs g).2)))]):=by
 have hC:=fun w:WD=>checkFuncsRC (w:=w) hL hl hlen hb
 obtain ⟨rfl,rfl⟩:=fc_nil hl hb
 have hLn:∀ σ:AStore,aLen (.slice 0) L σ=some (.sc (.int .i64 (0))):=fun σ=>hL.len (σ:=σ)
 rw [show funcsP nameB [] g=(0,0) from rfl]
 rw [show checkF nameB []=0 from rfl] at hC
 refine GivesV.of gWF (.cons _ _ (hL.wf .nil) (.cons _ _ (hS.wf (wf_sA _)) .nil)) 2 ?_
 refine of_104 rfl rfl rfl (by kernel_rfl) ?_
 simp -implicitDefEqProofs only [go_sem]
 refine (hC _).use ?_
 (repeat' first|refine vw ?_ ?_<;>intro hq|refine vz ?_|simp -implicitDefEqProofs only [go_sem])
 refine vlp (ι:=Unit) (fun _=>[(0,L),(1,S),(4,(.sc (.int .i64 (0)))),(5,(.sc (.int .i64 (0)))),(7,(.sc (.int .i64 (0))))]) (fun _ σ=>True) (fun _=>0) (fun _=>rfl) () ?_ ?_ ?_
 ·exact vsu
 ·trivial
 rintro _ σ _
 have e0:decide ((0:Int) < 0)=false:=rfl
 simp -implicitDefEqProofs only [go_sem,e0,hLn]
 (try (repeat' first|refine vw ?_ ?_<;>intro hq|refine vz ?_|simp -implicitDefEqProofs only [go_sem,e0,hLn]))
 exact ⟨_,rfl,rfl⟩
theorem refExpC {w:WD} {X L S:AVal} {x:Ex} {els:List AVal} {fs:List Fc} {g:List ByteArray} (hX:IsEx x X) (hxb:nodesE x<=1099511627776) (hL:IsD 3 L els) (hl:IsFcs fs els) (hlen:els.length<=281474976710656) (hb:fs.length<=0)
  (hS:IsD 1 S (g.map sA)) (hg:g.length<=281474976710656):
  GivesV (EE w) 137 [X,S,L] (.sc (.int .i64 (expP nameB x g fs))):=by
 obtain ⟨c1,c2,c3⟩:=hX.isA.facts
 have cc:=hX.cellsOk
 have hfit:X.fit=true:=by obtain ⟨cs,rfl,_⟩:=hX.isA; rfl
 have hE:=fun w:WD=>checkExpRC (w:=w) hX hxb
 have kS:=hS.fit
 have cS:=hS.cells
 have iS:=hS.isCell
 have kL:=hL.fit
 have cL:=hL.cells
 have iL:=hL.isCell
 rw [expP_if]
 refine GivesV.of gWF (.cons _ _ hX.wf (.cons _ _ (hS.wf (wf_sA _)) (.cons _ _ (hL.wf hl.wf) .nil))) 2 ?_
 refine of_137 rfl rfl rfl (by kernel_rfl) ?_
 simp -implicitDefEqProofs only [go_sem,c1,c2,c3,cc,hfit]
 have g0:(empty.alloc (.cells 4 [X])).get 0=some (.cells 4 [X]):=by rw [AStore.get_alloc]; rfl
 generalize empty.alloc (.cells 4 [X])=τ at g0 ⊢
 (repeat' first|refine vw ?_ ?_<;>intro hq|refine vz ?_|simp -implicitDefEqProofs only [go_sem,g0,c1,c2,c3,cc,hfit])
 refine (hE _).use ?_
 by_cases hz:checkE nameB x=0
 ·rw [if_pos hz]
  (repeat' first|refine vw ?_ ?_<;>intro hq|refine vz ?_|simp -implicitDefEqProofs only [go_sem,dct hz])
  refine (refFuncsC hL hl hlen hb hS hg).use ?_
  by_cases hy:(funcsP nameB fs g).2=0
  ·rw [if_pos hy]
   (repeat' first|refine vw ?_ ?_<;>intro hq|refine vz ?_|simp -implicitDefEqProofs only [go_sem,dct hy,g0,c1,c2,c3,cc,hfit,kS,cS,iS,kL,cL,iL])
   refine (expRC (o:=[]) hX ⟨S,(.sc (.slice none 0 0)),L,els,rfl,hS,.inl ⟨rfl,_,_,rfl⟩,hL,hl,hg,by simp,hlen⟩).use ?_
   (repeat' first|refine vw ?_ ?_<;>intro hq|refine vz ?_|simp -implicitDefEqProofs only [go_sem])
   exact ⟨_,rfl,rfl⟩
  ·rw [if_neg hy]
   (repeat' first|refine vw ?_ ?_<;>intro hq|refine vz ?_|simp -implicitDefEqProofs only [go_sem,dcf hy])
   exact ⟨_,rfl,rfl⟩
 ·rw [if_neg hz]
  (repeat' first|refine vw ?_ ?_<;>intro hq|refine vz ?_|simp -implicitDefEqProofs only [go_sem,dcf hz])
  exact ⟨_,rfl,rfl⟩
end Abs
end
