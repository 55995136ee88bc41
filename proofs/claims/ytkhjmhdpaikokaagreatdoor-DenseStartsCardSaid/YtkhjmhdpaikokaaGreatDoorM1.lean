/-
  Functions of the program walked: each is shown to compute a plain function (M1).
-/
import Derived.Test.YtkhjmhdpaikokaaGreatDoorN9
import Derived.Test.YtkhjmhdpaikokaaGreatDoorT25
set_option linter.unusedSimpArgs false
set_option linter.unusedVariables false
set_option maxRecDepth 100000
set_option maxHeartbeats 16000000
noncomputable section
namespace Abs
open Go Go.Proofs
theorem eff_slS {w:WD} {x:Operand} {a b c:Option Operand}:isEff (EE w) (.slice 100 x a b c)=false:=by kernel_rfl
attribute [go_sem] eff_slS
theorem IsD.take {sz:Nat} {x:AVal} {els:List AVal} (h:IsD sz x els) {k:Nat} (hk:k < els.length):∃ y,(∀ σ:AStore,aSlice sz x none (some (.sc (.int .i64 (k)))) σ=some y)/\IsD sz y (els.take k):=by
 rcases h with ⟨rfl,a,c,rfl⟩|⟨t,rfl⟩
 ·cases hk
 ·refine ⟨.data sz (t && k==els.length) (els.take k),fun σ=>?_,.inr ⟨_,rfl⟩⟩
  have h1:(k:Int)<=(els.length:Int):=by omega
  simp [aSlice,aBounds,optInt,h1]
theorem strs_n {L:AVal} {l:List ByteArray} (h:IsD 1 L (l.map sA)):∀ σ:AStore,aLen (.slice 0) L σ=some (.sc (.int .i64 (l.length))):=fun σ=>by have:=h.len (σ:=σ); rwa [List.length_map] at this
theorem atRC {w:WD} {L:AVal} {l:List ByteArray} (h:IsD 1 L (l.map sA)) (hl:l.length<=1000000000) (s:ByteArray):Gives (EE w) 103 [L,sA s] fun v=>∃ i:Int,v=(.sc (.int .i64 (i)))/\(0<=i ↔ s∈l):=by
 refine Gives.of gWF (.cons _ _ (h.wf (wf_sA _)) (.cons _ _ (.sc _) .nil)) 1 ?_
 have hLn:=strs_n h
 refine of_103 rfl rfl rfl (by kernel_rfl) ?_
 simp -implicitDefEqProofs only [go_sem,sA]
 (try (repeat' first|refine vw ?_ ?_<;>intro hq|refine vz ?_|simp -implicitDefEqProofs only [go_sem,sA]))
 refine vlp (ι:=Nat) (fun j=>[(0,L),(1,.sc (.string s)),(5,(.sc (.int .i64 (j))))]) (fun j τ=>j<=l.length/\∀ i,i < j->∀ z,l[i]?=some z->z≠s) (fun j=>l.length - j) (fun _=>rfl) 0 ?_ ?_ ?_
 ·exact vsu
 ·exact ⟨Nat.zero_le _,fun i hi=>absurd hi (Nat.not_lt_zero _)⟩
 rintro j τ ⟨hj,hall⟩
 simp -implicitDefEqProofs only [go_sem,hLn]
 (refine vif ?_ ?_<;>intro hlt)
 ·obtain ⟨z,hz⟩:∃ z,l[j]?=some z:=⟨l[j]'(by omega),by simp⟩
  have hz':(l.map sA)[j]?=some (sA z):=by rw [List.getElem?_map,hz]; rfl
  have hiz:=fun (σ:AStore)=>h.idx (σ:=σ) (k:=.i64) hz'
  have hw:=wrapS (i:=j) (by omega)
  by_cases hk:z=s
  ·subst hk
   (repeat' first|refine vw ?_ ?_<;>intro hq|refine vz ?_|simp -implicitDefEqProofs only [go_sem,hiz,sA,ba_list,dct (rfl:z=z)])
   refine ⟨_,_,rfl,rfl,_,rfl,?_⟩
   exact iff_of_true (by omega) (List.mem_of_getElem? hz)
  ·(repeat' first|refine vw ?_ ?_<;>intro hq|refine vz ?_|simp -implicitDefEqProofs only [go_sem,hiz,sA,ba_list,dcf hk,hw])
   refine ⟨j+1,vom,⟨vom,fun i hi z' hzi=>?_⟩,vsu⟩
   by_cases hij:i=j
   ·subst hij
    rw [hz] at hzi
    cases hzi
    exact hk
   ·exact hall i (by omega) z' hzi
 ·(repeat' first|refine vw ?_ ?_<;>intro hq|refine vz ?_|simp -implicitDefEqProofs only [go_sem])
  refine ⟨_,_,rfl,rfl,_,rfl,iff_of_false (by omega) fun hm=>?_⟩
  obtain ⟨i,hi,rfl⟩:=List.mem_iff_getElem.1 hm
  exact hall i (by omega) _ (List.getElem?_eq_getElem hi) rfl
theorem mapO_sA {σ:AStore}:∀ l:List ByteArray,mapO (Abs.frz σ 1) (l.map sA)=some (l.map sA)
 | []=>rfl
 | x::l=>by rw [List.map_cons,mapO_cons',mapO_sA l]; rfl
theorem varsRC {w:WD} {S:AVal} {l:List Vr} (hS:IsD 4 S (l.map vrA)) (hl:l.length<=1000000000):Gives (EE w) 62 [S] fun v=>IsD 1 v ((l.map Vr.nm).map sA):=by
 have hSn:∀ σ:AStore,aLen (.slice 0) S σ=some (.sc (.int .i64 (l.length))):=fun σ=>by have:=hS.len (σ:=σ); rwa [List.length_map] at this
 refine Gives.of gWF (.cons _ _ (hS.wf (WFs.map wf_vr)) .nil) 2 ?_
 refine of_62 rfl rfl rfl (by kernel_rfl) ?_
 simp -implicitDefEqProofs only [go_sem]
 (try (repeat' first|refine vw ?_ ?_<;>intro hq|refine vz ?_|simp -implicitDefEqProofs only [go_sem]))
 refine vlp (ι:=Nat×AVal) (fun p=>[(0,S),(3,p.2),(4,(.sc (.int .i64 (p.1))))]) (fun p τ=>p.1<=l.length/\Own τ 1 p.2 (((l.take p.1).map Vr.nm).map sA)) (fun p=>l.length - p.1) (fun _=>rfl) (0,(.sc (.slice none 0 0))) ?_ ?_ ?_
 ·exact vsu
 ·exact ⟨Nat.zero_le _,Own.nil⟩
 rintro ⟨j,A⟩ τ ⟨hj,hA⟩
 simp only at hj hA
 simp -implicitDefEqProofs only [go_sem,hSn]
 (refine vif ?_ ?_<;>intro hlt)
 ·obtain ⟨x,hx⟩:∃ x,l[j]?=some x:=⟨l[j]'(by omega),by simp⟩
  have hx':(l.map vrA)[j]?=some (vrA x):=by rw [List.getElem?_map,hx]; rfl
  have hix:=fun (σ:AStore)=>hS.idx (σ:=σ) (k:=.i64) hx'
  have hw:=wrapS (i:=j) (by omega)
  have hel:(((l.take j).map Vr.nm).map sA).length=j:=by simp; omega
  have htk:((l.take j).map Vr.nm).map sA++[AVal.sc (.string x.nm)]=((l.take (j+1)).map Vr.nm).map sA:=by rw [List.take_add_one,hx]; simp [sA]
  obtain ⟨σ',a1,a2,a3,a4⟩:=(hA.alloc (.cells 1 [.sc (.string x.nm)])).append (bytes:=16) (xs:=[.sc (.string x.nm)]) (by simp) (by rw [hel]; simp; omega) (by decide) (by decide) rfl
  have hel':(((l.take (j+1)).map Vr.nm).map sA).length=j+1:=by simp; omega
  rw [htk,hel'] at a1 a2
  have hz:τ.next < τ.next+1:=Nat.lt_succ_self _
  (repeat' first|refine vw ?_ ?_<;>intro hq|refine vz ?_|simp -implicitDefEqProofs only [go_sem,hix,vrA,sA,a1,hw])
  exact ⟨(j+1,.slice (τ.alloc (.cells 1 [.sc (.string x.nm)])).next 0 (j+1)),vom,⟨vom,a2⟩,vsu⟩
 ·obtain rfl:j=l.length:=by omega
  rw [List.take_length] at hA
  (repeat' first|refine vw ?_ ?_<;>intro hq|refine vz ?_|simp -implicitDefEqProofs only [go_sem])
  have hz:=hA.frz (n:=1) (us:=(l.map Vr.nm).map sA) (mapO_sA _)
  refine ⟨_,_,rfl,hz,?_⟩
  split
  ·rename_i h0; rw [h0]; exact .inl ⟨rfl,_,_,rfl⟩
  ·exact .inr ⟨_,rfl⟩
theorem chansRC {w:WD} {S:AVal} {l:List Ch} (hS:IsD 3 S (l.map chA)) (hl:l.length<=1000000000):Gives (EE w) 63 [S] fun v=>IsD 1 v ((l.map Ch.nm).map sA):=by
 have hSn:∀ σ:AStore,aLen (.slice 0) S σ=some (.sc (.int .i64 (l.length))):=fun σ=>by have:=hS.len (σ:=σ); rwa [List.length_map] at this
 refine Gives.of gWF (.cons _ _ (hS.wf (WFs.map wf_ch)) .nil) 2 ?_
 refine of_63 rfl rfl rfl (by kernel_rfl) ?_
 simp -implicitDefEqProofs only [go_sem]
 (try (repeat' first|refine vw ?_ ?_<;>intro hq|refine vz ?_|simp -implicitDefEqProofs only [go_sem]))
 refine vlp (ι:=Nat×AVal) (fun p=>[(0,S),(3,p.2),(4,(.sc (.int .i64 (p.1))))]) (fun p τ=>p.1<=l.length/\Own τ 1 p.2 (((l.take p.1).map Ch.nm).map sA)) (fun p=>l.length - p.1) (fun _=>rfl) (0,(.sc (.slice none 0 0))) ?_ ?_ ?_
 ·exact vsu
 ·exact ⟨Nat.zero_le _,Own.nil⟩
 rintro ⟨j,A⟩ τ ⟨hj,hA⟩
 simp only at hj hA
 simp -implicitDefEqProofs only [go_sem,hSn]
 (refine vif ?_ ?_<;>intro hlt)
 ·obtain ⟨x,hx⟩:∃ x,l[j]?=some x:=⟨l[j]'(by omega),by simp⟩
  have hx':(l.map chA)[j]?=some (chA x):=by rw [List.getElem?_map,hx]; rfl
  have hix:=fun (σ:AStore)=>hS.idx (σ:=σ) (k:=.i64) hx'
  have hw:=wrapS (i:=j) (by omega)
  have hel:(((l.take j).map Ch.nm).map sA).length=j:=by simp; omega
  have htk:((l.take j).map Ch.nm).map sA++[AVal.sc (.string x.nm)]=((l.take (j+1)).map Ch.nm).map sA:=by rw [List.take_add_one,hx]; simp [sA]
  obtain ⟨σ',a1,a2,a3,a4⟩:=(hA.alloc (.cells 1 [.sc (.string x.nm)])).append (bytes:=16) (xs:=[.sc (.string x.nm)]) (by simp) (by rw [hel]; simp; omega) (by decide) (by decide) rfl
  have hel':(((l.take (j+1)).map Ch.nm).map sA).length=j+1:=by simp; omega
  rw [htk,hel'] at a1 a2
  have hz:τ.next < τ.next+1:=Nat.lt_succ_self _
  (repeat' first|refine vw ?_ ?_<;>intro hq|refine vz ?_|simp -implicitDefEqProofs only [go_sem,hix,chA,sA,a1,hw])
  exact ⟨(j+1,.slice (τ.alloc (.cells 1 [.sc (.string x.nm)])).next 0 (j+1)),vom,⟨vom,a2⟩,vsu⟩
 ·obtain rfl:j=l.length:=by omega
  rw [List.take_length] at hA
  (repeat' first|refine vw ?_ ?_<;>intro hq|refine vz ?_|simp -implicitDefEqProofs only [go_sem])
  have hz:=hA.frz (n:=1) (us:=(l.map Ch.nm).map sA) (mapO_sA _)
  refine ⟨_,_,rfl,hz,?_⟩
  split
  ·rename_i h0; rw [h0]; exact .inl ⟨rfl,_,_,rfl⟩
  ·exact .inr ⟨_,rfl⟩
theorem funcsRC {w:WD} {L:AVal} {els:List AVal} {fs:List Fc} (hL:IsD 3 L els) (hl:IsFcs fs els) (hb:fs.length<=0):Gives (EE w) 65 [L] fun v=>v=(.sc (.slice none 0 0)):=by
 obtain ⟨rfl,rfl⟩:=fc_nil hl hb
 refine Gives.of gWF (.cons _ _ (hL.wf .nil) .nil) 1 ?_
 have hLn:∀ σ:AStore,aLen (.slice 0) L σ=some (.sc (.int .i64 (0))):=fun σ=>hL.len (σ:=σ)
 refine of_65 rfl rfl rfl (by kernel_rfl) ?_
 simp -implicitDefEqProofs only [go_sem,hLn]
 (try (repeat' first|refine vw ?_ ?_<;>intro hq|refine vz ?_|simp -implicitDefEqProofs only [go_sem,hLn]))
 refine vlp (ι:=Unit) (fun _=>[(0,L),(3,(.sc (.slice none 0 0))),(4,(.sc (.int .i64 (0))))]) (fun _ σ=>True) (fun _=>0) (fun _=>rfl) () ?_ ?_ ?_
 ·exact vsu
 ·trivial
 rintro _ σ _
 have e0:decide ((0:Int) < 0)=false:=rfl
 simp -implicitDefEqProofs only [go_sem,e0,hLn]
 (try (repeat' first|refine vw ?_ ?_<;>intro hq|refine vz ?_|simp -implicitDefEqProofs only [go_sem,e0,hLn]))
 all_goals exact ⟨_,_,rfl,rfl,rfl⟩
theorem nodup_take {l:List ByteArray} {j:Nat} {x:ByteArray} (hx:l[j]?=some x) (h:(l.take j).Nodup):((l.take (j+1)).Nodup ↔ x ∉ l.take j):=by
 rw [List.take_add_one,hx]
 simp only [Option.toList_some]
 rw [List.nodup_append]
 constructor
 ·intro hh hm
  exact hh.2.2 x hm x (by simp) rfl
 ·intro hh
  exact ⟨h,by simp,by intro a ha b hb; simp at hb; subst hb; rintro rfl; exact hh ha⟩
theorem nodup_of_take {l:List ByteArray} {j:Nat} (h:l.Nodup):(l.take j).Nodup:=h.sublist (List.take_sublist _ _)
theorem differentRC {w:WD} {L:AVal} {l:List ByteArray} (h:IsD 1 L (l.map sA)) (hl:l.length<=1000000000):GivesV (EE w) 67 [L] (.sc (.bool (decide l.Nodup))):=by
 have hA:=fun (w:WD) (k:Nat) (S:AVal) (hS:IsD 1 S ((l.take k).map sA)) (s:ByteArray)=>atRC (w:=w) hS (by rw [List.length_take]; omega) s
 refine GivesV.of gWF (.cons _ _ (h.wf (wf_sA _)) .nil) 1 ?_
 have hLn:=strs_n h
 refine of_67 rfl rfl rfl (by kernel_rfl) ?_
 simp -implicitDefEqProofs only [go_sem]
 (try (repeat' first|refine vw ?_ ?_<;>intro hq|refine vz ?_|simp -implicitDefEqProofs only [go_sem]))
 refine vlp (ι:=Nat) (fun j=>[(0,L),(3,(.sc (.int .i64 (j))))]) (fun j τ=>j<=l.length/\(l.take j).Nodup) (fun j=>l.length - j) (fun _=>rfl) 0 ?_ ?_ ?_
 ·exact vsu
 ·exact ⟨Nat.zero_le _,by simp⟩
 rintro j τ ⟨hj,hnd⟩
 simp -implicitDefEqProofs only [go_sem,hLn]
 (refine vif ?_ ?_<;>intro hlt)
 ·obtain ⟨x,hx⟩:∃ x,l[j]?=some x:=⟨l[j]'(by omega),by simp⟩
  have hx':(l.map sA)[j]?=some (sA x):=by rw [List.getElem?_map,hx]; rfl
  have hix:=fun (σ:AStore)=>h.idx (σ:=σ) (k:=.i64) hx'
  have hw:=wrapS (i:=j) (by omega)
  obtain ⟨S,hS,hS2⟩:=h.take (k:=j) (by rw [List.length_map]; omega)
  rw [<-List.map_take] at hS2
  (repeat' first|refine vw ?_ ?_<;>intro hq|refine vz ?_|simp -implicitDefEqProofs only [go_sem])
  ((try (refine Z_seq ?_; (try simp -implicitDefEqProofs only [go_sem]))); refine Z_draw (by kernel_rfl) [0,1,2,3,4,5,6,7,8] [(8,255),(7,127),(6,56),(5,24),(4,0),(3,0),(2,3),(1,0),(0,0)] (by kernel_rfl) (by kernel_rfl) ?_)
  simp -implicitDefEqProofs only [go_sem,hS,hix,sA]
  refine (hA _ _ _ hS2 x).useD ?_
  rintro _ ⟨i,rfl,hi⟩
  have hni:=nodup_take hx hnd
  by_cases hm:x∈l.take j
  ·have d1:decide (0<=i)=true:=dct (hi.2 hm)
   simp -implicitDefEqProofs only [go_sem,d1]
   (try (repeat' first|refine vw ?_ ?_<;>intro hq|refine vz ?_|simp -implicitDefEqProofs only [go_sem,d1]))
   refine ret_bool (dcf fun hh=>?_).symm
   exact hni.1 (nodup_of_take hh) hm
  ·have d1:decide (0<=i)=false:=dcf fun hh=>hm (hi.1 hh)
   simp -implicitDefEqProofs only [go_sem,d1,hw]
   (try (repeat' first|refine vw ?_ ?_<;>intro hq|refine vz ?_|simp -implicitDefEqProofs only [go_sem,d1,hw]))
   exact ⟨j+1,vom,⟨vom,hni.2 hm⟩,vsu⟩
 ·obtain rfl:j=l.length:=by omega
  rw [List.take_length] at hnd
  (repeat' first|refine vw ?_ ?_<;>intro hq|refine vz ?_|simp -implicitDefEqProofs only [go_sem])
  exact ret_bool (dct hnd).symm
theorem upperRC {w:WD} (x:Cn):GivesV (EE w) 106 [cnA x] (.sc (.bool (upB x))):=by
 obtain ⟨k,lo,st,c⟩:=x
 refine GivesV.of gWF (.cons _ _ (wf_cn _) .nil) 1 ?_
 refine of_106 rfl rfl rfl (by kernel_rfl) ?_
 have hb:upB ⟨k,lo,st,c⟩=(!lo && (decide (0<=c) && decide (c<=1048576)) && (decide (0 < c) || !st)):=rfl
 rw [hb]
 cases lo<;>cases st<;>simp -implicitDefEqProofs only [go_sem,cnA]<;>(try (repeat' first|refine vw ?_ ?_<;>intro hq|refine vz ?_|simp -implicitDefEqProofs only [go_sem,cnA]))
 all_goals (refine ret_bool ?_; first|rfl|simp)
theorem IsNt.fit0 {n:Nt} {v:AVal} (h:IsNt n v):∃ SV SC SF SP,v=.agg [(.sc (.int .i64 (n.clocks))),SV,SC,SF,SP]/\(SV.fit=true/\SV.cells=[SV]/\SV.isCell=true)/\(SC.fit=true/\SC.cells=[SC]/\SC.isCell=true)/\(SF.fit=true/\SF.cells=[SF]/\SF.isCell=true)/\(SP.fit=true/\SP.cells=[SP]/\SP.isCell=true):=by
 obtain ⟨SV,SC,SF,SP,fels,rfl,_,hV,hC,hF,_,_,hP⟩:=h
 obtain ⟨pels,hP1,_⟩:=hP.at'
 exact ⟨SV,SC,SF,SP,rfl,⟨hV.1.fit,hV.1.cells,hV.1.isCell⟩,⟨hC.1.fit,hC.1.cells,hC.1.isCell⟩,⟨hF.fit,hF.cells,hF.isCell⟩,⟨hP1.fit,hP1.cells,hP1.isCell⟩⟩
theorem clockRC {w:WD} {n:Nt} {v:AVal} (h:IsNt n v) (k:Int):GivesV (EE w) 109 [v,(.sc (.int .i64 (k)))] (.sc (.bool (decide (1<=k) && decide (k<=n.clocks)))):=by
 have hwf:=h.wf
 obtain ⟨SV,SC,SF,SP,rfl,fV,fC,fF,fP⟩:=h.fit0
 refine GivesV.of gWF (.cons _ _ hwf (.cons _ _ (.sc _) .nil)) 1 ?_
 refine of_109 rfl rfl rfl (by kernel_rfl) ?_
 simp -implicitDefEqProofs only [go_sem,fV,fC,fF,fP]
 (try (repeat' first|refine vw ?_ ?_<;>intro hq|refine vz ?_|simp -implicitDefEqProofs only [go_sem,fV,fC,fF,fP]))
 all_goals (refine ret_bool ?_; first|rfl|(rename_i a _; rw [a]; rfl)|simp)
theorem noneRC {w:WD} {x:Ex} {X:AVal} (h:IsEx x X):GivesV (EE w) 107 [X] (.sc (.bool (noE x))):=by
 have hwf:=h.wf
 have hx:=h
 obtain ⟨k,nm,i,xs⟩:=x
 simp only [IsEx] at hx
 obtain ⟨S,els,rfl,hS,hxs,_⟩:=hx
 have hlen:=hxs.len
 have hSn:=fun σ:AStore=>hS.lenN hlen (σ:=σ)
 have kS:=hS.fit
 have cS:=hS.cells
 have iS:=hS.isCell
 refine GivesV.of gWF (.cons _ _ hwf .nil) 1 ?_
 refine of_107 rfl rfl rfl (by kernel_rfl) ?_
 simp -implicitDefEqProofs only [go_sem,kS,cS,iS]
 have hn0:decide (nm=⟨#[]⟩)=decide (nm.size=0):=by
  refine decide_eq_decide.2 ⟨fun h=>by rw [h]; rfl,fun h=>?_⟩
  obtain ⟨a⟩:=nm
  exact congrArg ByteArray.mk (Array.eq_empty_of_size_eq_zero h)
 have hl0:decide ((xs.length:Int)=0)=decide (xs.length=0):=decide_eq_decide.2 (by omega)
 have hb:noE (.mk k nm i xs)=(decide (k=0) && decide (nm.size=0) && decide (i=0) && decide (xs.length=0)):=rfl
 rw [hb]
 by_cases h1:k=0
 ·by_cases h2:nm.size=0
  ·by_cases h3:i=0
   ·simp -implicitDefEqProofs only [go_sem,kS,cS,iS,ba_list,hn0,hl0,dct h1,dct h2,dct h3,hSn]
    (try (repeat' first|refine vw ?_ ?_<;>intro hq|refine vz ?_|simp -implicitDefEqProofs only [go_sem,kS,cS,iS,ba_list,hn0,hl0,dct h1,dct h2,dct h3,hSn]))
    exact ret_bool rfl
   ·simp -implicitDefEqProofs only [go_sem,kS,cS,iS,ba_list,hn0,dct h1,dct h2,dcf h3]
    (try (repeat' first|refine vw ?_ ?_<;>intro hq|refine vz ?_|simp -implicitDefEqProofs only [go_sem,kS,cS,iS,ba_list,hn0,dct h1,dct h2,dcf h3]))
    exact ret_bool rfl
  ·simp -implicitDefEqProofs only [go_sem,kS,cS,iS,ba_list,hn0,dct h1,dcf h2]
   (try (repeat' first|refine vw ?_ ?_<;>intro hq|refine vz ?_|simp -implicitDefEqProofs only [go_sem,kS,cS,iS,ba_list,hn0,dct h1,dcf h2]))
   exact ret_bool rfl
 ·simp -implicitDefEqProofs only [go_sem,kS,cS,iS,dcf h1]
  (try (repeat' first|refine vw ?_ ?_<;>intro hq|refine vz ?_|simp -implicitDefEqProofs only [go_sem,kS,cS,iS,dcf h1]))
  exact ret_bool rfl
theorem ruleRC {w:WD} (b:Bool):GivesV (EE w) 138 [(.sc (.bool (b)))] (.sc (.int .i64 (if b then 0 else 120))):=by
 refine GivesV.of gWF (.cons _ _ (.sc _) .nil) 1 ?_
 refine of_138 rfl rfl rfl (by kernel_rfl) ?_
 cases b<;>simp -implicitDefEqProofs only [go_sem]<;>(try (repeat' first|refine vw ?_ ?_<;>intro hq|refine vz ?_|simp -implicitDefEqProofs only [go_sem]))
 all_goals exact ⟨_,rfl,rfl⟩
theorem sma12RC {w:WD} {x:Ex} {X:AVal} (h:IsEx x X) (hb:nodesE x<=1099511627776):GivesV (EE w) 108 [X] (.sc (.bool (decide (checkE nameB x=0)))):=by
 obtain ⟨c1,c2,c3⟩:=h.isA.facts
 have cc:=h.cellsOk
 have hfit:X.fit=true:=by obtain ⟨cs,rfl,_⟩:=h.isA; rfl
 have hE:=fun w:WD=>checkExpRC (w:=w) h hb
 refine GivesV.of gWF (.cons _ _ h.wf .nil) 1 ?_
 refine of_108 rfl rfl rfl (by kernel_rfl) ?_
 simp -implicitDefEqProofs only [go_sem,c1,c2,c3,cc,hfit]
 have g0:(empty.alloc (.cells 4 [X])).get 0=some (.cells 4 [X]):=by rw [AStore.get_alloc]; rfl
 (try (repeat' first|refine vw ?_ ?_<;>intro hq|refine vz ?_|simp -implicitDefEqProofs only [go_sem,g0,c1,c2,c3,cc,hfit]))
 refine (hE _).use ?_
 (repeat' first|refine vw ?_ ?_<;>intro hq|refine vz ?_|simp -implicitDefEqProofs only [go_sem])
 exact ret_bool rfl
def ckB (clocks:Int) (x:Cn):Bool:=decide (1<=x.k) && decide (x.k<=clocks)
theorem consRC {w:WD} {n:Nt} {v S:AVal} {l:List Cn} (h:IsNt n v) (hl:IsCns l S):GivesV (EE w) 105 [v,S] (.sc (.bool (l.all (ckB n.clocks) && decide (l.length<=16)))):=by
 have hwf:=h.wf
 have hK:=fun (w:WD) (k:Int)=>clockRC (w:=w) h k
 obtain ⟨SV,SC,SF,SP,rfl,fV,fC,fF,fP⟩:=h.fit0
 obtain ⟨hS,hll,hok⟩:=hl
 have hSn:∀ σ:AStore,aLen (.slice 0) S σ=some (.sc (.int .i64 (l.length))):=fun σ=>by have:=hS.len (σ:=σ); rwa [List.length_map] at this
 refine GivesV.of gWF (.cons _ _ hwf (.cons _ _ (hS.wf (WFs.map wf_cn)) .nil)) 1 ?_
 refine of_105 rfl rfl rfl (by kernel_rfl) ?_
 simp -implicitDefEqProofs only [go_sem,fV,fC,fF,fP]
 (try (repeat' first|refine vw ?_ ?_<;>intro hq|refine vz ?_|simp -implicitDefEqProofs only [go_sem,fV,fC,fF,fP]))
 have g0:(empty.alloc (.cells 5 [.agg [(.sc (.int .i64 (n.clocks))),SV,SC,SF,SP]])).get 0=some (.cells 5 [.agg [(.sc (.int .i64 (n.clocks))),SV,SC,SF,SP]]):=by rw [AStore.get_alloc]; rfl
 generalize empty.alloc (.cells 5 [.agg [(.sc (.int .i64 (n.clocks))),SV,SC,SF,SP]])=τ0 at g0 ⊢
 refine vlp (ι:=Nat) (fun j=>[(1,S),(2,.ptr 0 0 0),(5,(.sc (.int .i64 (j))))]) (fun j τ=>j<=l.length/\τ.get 0=some (.cells 5 [.agg [(.sc (.int .i64 (n.clocks))),SV,SC,SF,SP]])/\(l.take j).all (ckB n.clocks)=true) (fun j=>l.length - j) (fun _=>rfl) 0 ?_ ?_ ?_
 ·exact vsu
 ·exact ⟨Nat.zero_le _,g0,rfl⟩
 clear g0
 rintro j τ ⟨hj,g0,hall⟩
 simp -implicitDefEqProofs only [go_sem,hSn]
 (refine vif ?_ ?_<;>intro hlt)
 ·obtain ⟨x,hx⟩:∃ x,l[j]?=some x:=⟨l[j]'(by omega),by simp⟩
  have hx':(l.map cnA)[j]?=some (cnA x):=by rw [List.getElem?_map,hx]; rfl
  have hix:=fun (σ:AStore)=>hS.idx (σ:=σ) (k:=.i64) hx'
  have hw:=wrapS (i:=j) (by omega)
  have hat:=all_take1 (P:=ckB n.clocks) hx
  have hbad:ckB n.clocks x=false->l.all (ckB n.clocks)=false:=fun h=>List.all_eq_false.2 ⟨x,List.mem_of_getElem? hx,by simp [h]⟩
  obtain ⟨k,lo,st,c⟩:=x
  (repeat' first|refine vw ?_ ?_<;>intro hq|refine vz ?_|simp -implicitDefEqProofs only [go_sem])
  ((try (refine Z_seq ?_; (try simp -implicitDefEqProofs only [go_sem]))); refine Z_draw (by kernel_rfl) [0,1,2,3,4,5,6,7] [(7,127),(6,63),(5,30),(4,14),(3,6),(2,0),(1,0),(0,0)] (by kernel_rfl) (by kernel_rfl) ?_)
  simp -implicitDefEqProofs only [go_sem,g0,hix,cnA,fV,fC,fF,fP]
  refine (hK _ k).useD ?_
  cases hb:ckB n.clocks ⟨k,lo,st,c⟩ with
  | false=>
   have hb':(decide (1<=k) && decide (k<=n.clocks))=false:=hb
   simp -implicitDefEqProofs only [go_sem,hb']
   (try (repeat' first|refine vw ?_ ?_<;>intro hq|refine vz ?_|simp -implicitDefEqProofs only [go_sem,hb']))
   refine ret_bool ?_
   rw [hbad hb]
   rfl
  | true=>
   have hb':(decide (1<=k) && decide (k<=n.clocks))=true:=hb
   simp -implicitDefEqProofs only [go_sem,hb',hw]
   (try (repeat' first|refine vw ?_ ?_<;>intro hq|refine vz ?_|simp -implicitDefEqProofs only [go_sem,hb',hw]))
   refine ⟨j+1,vom,⟨vom,g0,?_⟩,vsu⟩
   rw [hat,hall,hb]
   rfl
 ·obtain rfl:j=l.length:=by omega
  rw [List.take_length] at hall
  have e1:decide ((l.length:Int)<=16)=decide (l.length<=16):=decide_eq_decide.2 (by omega)
  simp -implicitDefEqProofs only [go_sem,hSn,e1]
  (try (repeat' first|refine vw ?_ ?_<;>intro hq|refine vz ?_|simp -implicitDefEqProofs only [go_sem,hSn,e1]))
  refine ret_bool ?_
  rw [hall]
  rfl
theorem declRC {w:WD} {SV L:AVal} {vars:List Vr} {els:List AVal} {fs:List Fc} {many:Int} (hV:IsD 4 SV (vars.map vrA)) (hvl:vars.length<=1000000) (hL:IsD 3 L els) (hl:IsFcs fs els) (hlen:els.length<=281474976710656) (hb:fs.length<=0):
  Gives (EE w) 68 [SV,L,(.sc (.int .i64 (many)))] fun v=>∃ e:Int,v=(.sc (.int .i64 (e)))/\(e=0 ↔ (vars.all vrB && decide ((funcsP nameB fs (vars.map Vr.nm)).2=0) && decide (many≠0))=true):=by
 have hVn:∀ σ:AStore,aLen (.slice 0) SV σ=some (.sc (.int .i64 (vars.length))):=fun σ=>by have:=hV.len (σ:=σ); rwa [List.length_map] at this
 have hvC:=fun w:WD=>varsRC (w:=w) hV (by omega)
 have hFC:=fun (w:WD) (S:AVal) (hS:IsD 1 S ((vars.map Vr.nm).map sA))=>refFuncsC (w:=w) hL hl hlen hb hS (by rw [List.length_map]; omega)
 refine Gives.of gWF (.cons _ _ (hV.wf (WFs.map wf_vr)) (.cons _ _ (hL.wf hl.wf) (.cons _ _ (.sc _) .nil))) 1 ?_
 refine of_68 rfl rfl rfl (by kernel_rfl) ?_
 simp -implicitDefEqProofs only [go_sem]
 (try (repeat' first|refine vw ?_ ?_<;>intro hq|refine vz ?_|simp -implicitDefEqProofs only [go_sem]))
 refine vlp (ι:=Nat) (fun j=>[(0,SV),(1,L),(2,(.sc (.int .i64 (many)))),(7,(.sc (.int .i64 (j))))]) (fun j τ=>j<=vars.length/\(vars.take j).all vrB=true) (fun j=>vars.length - j) (fun _=>rfl) 0 ?_ ?_ ?_
 ·exact vsu
 ·exact ⟨Nat.zero_le _,rfl⟩
 rintro j τ ⟨hj,hall⟩
 simp -implicitDefEqProofs only [go_sem,hVn]
 (refine vif ?_ ?_<;>intro hlt)
 ·obtain ⟨x,hx⟩:∃ x,vars[j]?=some x:=⟨vars[j]'(by omega),by simp⟩
  have hx':(vars.map vrA)[j]?=some (vrA x):=by rw [List.getElem?_map,hx]; rfl
  have hix:=fun (σ:AStore)=>hV.idx (σ:=σ) (k:=.i64) hx'
  have hw:=wrapS (i:=j) (by omega)
  have hat:=all_take1 (P:=vrB) hx
  have hbad:vrB x=false->vars.all vrB=false:=fun h=>List.all_eq_false.2 ⟨x,List.mem_of_getElem? hx,by simp [h]⟩
  obtain ⟨nm,lo,hi,ini⟩:=x
  by_cases h1:ini < lo
  ·have d1:=dct h1
   (repeat' first|refine vw ?_ ?_<;>intro hq|refine vz ?_|simp -implicitDefEqProofs only [go_sem])
   ((try (refine Z_seq ?_; (try simp -implicitDefEqProofs only [go_sem]))); refine Z_draw (by kernel_rfl) [0,1,2,3,4,5,6,7,8,9,10,11,12,13,14,15,16,17,18,19,20,21,22,23] [(23,8388607),(22,4194303),(21,1970175),(20,921599),(19,397311),(18,4095),(17,4095),(16,65535),(15,32767),(14,16383),(13,4095),(12,4095),(11,2047),(10,1023),(9,480),(8,224),(7,96),(6,0),(5,0),(4,15),(3,7),(2,3),(1,0),(0,0)] (by kernel_rfl) (by kernel_rfl) ?_)
   simp -implicitDefEqProofs only [go_sem,hix,vrA,d1]
   (try (repeat' first|refine vw ?_ ?_<;>intro hq|refine vz ?_|simp -implicitDefEqProofs only [go_sem,d1]))
   refine ⟨_,_,rfl,rfl,_,rfl,?_⟩
   rw [hbad (by simp [vrB]; omega)]
   simp
  ·have d1:=dcf h1
   by_cases h2:hi < ini
   ·have d2:=dct h2
    (repeat' first|refine vw ?_ ?_<;>intro hq|refine vz ?_|simp -implicitDefEqProofs only [go_sem])
    ((try (refine Z_seq ?_; (try simp -implicitDefEqProofs only [go_sem]))); refine Z_draw (by kernel_rfl) [0,1,2,3,4,5,6,7,8,9,10,11,12,13,14,15,16,17,18,19,20,21,22,23] [(23,8388607),(22,4194303),(21,1970175),(20,921599),(19,397311),(18,4095),(17,4095),(16,65535),(15,32767),(14,16383),(13,4095),(12,4095),(11,2047),(10,1023),(9,480),(8,224),(7,96),(6,0),(5,0),(4,15),(3,7),(2,3),(1,0),(0,0)] (by kernel_rfl) (by kernel_rfl) ?_)
    simp -implicitDefEqProofs only [go_sem,d1,d2,hix,vrA]
    (try (repeat' first|refine vw ?_ ?_<;>intro hq|refine vz ?_|simp -implicitDefEqProofs only [go_sem,d1,d2,hix,vrA]))
    refine ⟨_,_,rfl,rfl,_,rfl,?_⟩
    rw [hbad (by simp [vrB]; omega)]
    simp
   ·have d2:=dcf h2
    (repeat' first|refine vw ?_ ?_<;>intro hq|refine vz ?_|simp -implicitDefEqProofs only [go_sem])
    ((try (refine Z_seq ?_; (try simp -implicitDefEqProofs only [go_sem]))); refine Z_draw (by kernel_rfl) [0,1,2,3,4,5,6,7,8,9,10,11,12,13,14,15,16,17,18,19,20,21,22,23] [(23,8388607),(22,4194303),(21,1970175),(20,921599),(19,397311),(18,4095),(17,4095),(16,65535),(15,32767),(14,16383),(13,4095),(12,4095),(11,2047),(10,1023),(9,480),(8,224),(7,96),(6,0),(5,0),(4,15),(3,7),(2,3),(1,0),(0,0)] (by kernel_rfl) (by kernel_rfl) ?_)
    simp -implicitDefEqProofs only [go_sem,d1,d2,hix,vrA,hw]
    (try (repeat' first|refine vw ?_ ?_<;>intro hq|refine vz ?_|simp -implicitDefEqProofs only [go_sem,d1,d2,hix,vrA,hw]))
    refine ⟨j+1,vom,⟨vom,?_⟩,vsu⟩
    rw [hat,hall]
    simp [vrB]
    omega
 ·obtain rfl:j=vars.length:=by omega
  rw [List.take_length] at hall
  rw [hall]
  (repeat' first|refine vw ?_ ?_<;>intro hq|refine vz ?_|simp -implicitDefEqProofs only [go_sem])
  refine (hvC _).use ?_
  rintro S hS
  (try (repeat' first|refine vw ?_ ?_<;>intro hq|refine vz ?_|simp -implicitDefEqProofs only [go_sem]))
  refine (hFC _ S hS).use ?_
  by_cases hy:(funcsP nameB fs (vars.map Vr.nm)).2=0
  ·rw [hy]
   by_cases hm:many=0
   ·have d3:=dct hm
    (repeat' first|refine vw ?_ ?_<;>intro hq|refine vz ?_|simp -implicitDefEqProofs only [go_sem,d3])
    exact ⟨_,_,rfl,rfl,_,rfl,by simp [hm]⟩
   ·have d3:=dcf hm
    (repeat' first|refine vw ?_ ?_<;>intro hq|refine vz ?_|simp -implicitDefEqProofs only [go_sem,d3])
    exact ⟨_,_,rfl,rfl,_,rfl,by simp [hm]⟩
  ·have d2:=dcf hy
   (repeat' first|refine vw ?_ ?_<;>intro hq|refine vz ?_|simp -implicitDefEqProofs only [go_sem,d2])
   exact ⟨_,_,rfl,rfl,_,rfl,by simp [hy]⟩
def bareRB (chans:List Ch) (x:Eg):Bool:=match (if 0<=x.ch then chans[x.ch.toNat]? else none) with
 | some c=>!(c.ur || c.bc && !x.snd) || decide (x.gd.length=0)
 | none=>true
theorem bareRB_eq {chans:List Ch} {x:Eg}:bareRB chans x=bareB chans x:=by
 unfold bareRB bareB
 by_cases h:0<=x.ch
 ·rw [if_pos h,if_pos h]
  cases chans[x.ch.toNat]? with
  | none=>rfl
  | some c=>
   obtain ⟨nm,bc,ur⟩:=c
   cases ur<;>cases bc<;>cases x.snd<;>cases decide (x.gd.length=0)<;>rfl
 ·rw [if_neg h,if_neg h]
def gcB (x:Cn):Bool:=decide (0<=x.c) && decide (x.c<=1048576)
def rcB (x:Rt):Bool:=decide (0<=x.to) && decide (x.to<=1048576)
def seB (n:Nt) (s:Sg):Bool:=decide (expP nameB s.e (n.vars.map Vr.nm) n.funcs=0)
def edRB (n:Nt) (x:Eg):Bool:=((x.gd.all gcB && (noE x.cd || decide (expP nameB x.cd (n.vars.map Vr.nm) n.funcs=0))) && x.ss.all (seB n)) && x.rs.all rcB && (raB x.cost && wiB x.kind 2 && bareRB n.chans x)
theorem edgeRC {w:WD} {n:Nt} {v u:AVal} {x:Eg} (h:IsNt n v) (hs:NtS n) (hvl:n.vars.length<=1000000) (hu:IsEg x u) (hch:x.ch < n.chans.length) (hsl:x.ss.length<=1000000) (hrl:x.rs.length<=1000000) (hxb:nodesE x.cd<=1000000) (hsb:∀ s∈x.ss,nodesE s.e<=1000000):
  Gives (EE w) 110 [v,u] fun v=>∃ e:Int,v=(.sc (.int .i64 (e)))/\(e=0 ↔ edRB n x=true):=by
 have hwf:=h.wf
 have hwu:=hu.wf
 obtain ⟨SV,SC,SF,SP,fels,rfl,icl,⟨hV,lv,hvo⟩,⟨hC,lc,hco⟩,hF,hFs,lf,hP⟩:=h
 obtain ⟨pels,hP1,hPl,hPat⟩:=hP.at'
 have kV:=hV.fit
 have cV:=hV.cells
 have iV:=hV.isCell
 have kC:=hC.fit
 have cC:=hC.cells
 have iC:=hC.isCell
 have kF:=hF.fit
 have cF:=hF.cells
 have iF:=hF.isCell
 have kP:=hP1.fit
 have cP:=hP1.cells
 have iP:=hP1.isCell
 have hvC:=fun w:WD=>varsRC (w:=w) hV (by omega)
 have hEC:=fun (w:WD) (S X:AVal) (z:Ex) (hX:IsEx z X) (hb:nodesE z<=1000000) (hS:IsD 1 S ((n.vars.map Vr.nm).map sA))=>refExpC (w:=w) hX (by omega) hF hFs lf (by have:=hs.fs; omega) hS (by rw [List.length_map]; omega)
 obtain ⟨fr,to,gd,cd,ch,snd,ss,rs,cost,kind⟩:=x
 obtain ⟨G,a,a2,a3,a4,SS,SR,rfl,hG,hEx,hSs,hR,i1,i2,i3,i4,i5⟩:=hu
 have hgl:=hG.2.1
 simp only at hgl hsl hrl hxb hsb hch hG hEx hSs hR i3 i4 i5
 have kG:=hG.1.fit
 have cG:=hG.1.cells
 have iG:=hG.1.isCell
 obtain ⟨sels,hS1,hSl,hSat⟩:=hSs.at'
 have kSS:=hS1.fit
 have cSS:=hS1.cells
 have iSS:=hS1.isCell
 have kR:=hR.1.fit
 have cR:=hR.1.cells
 have iR:=hR.1.isCell
 have hGn:∀ σ:AStore,aLen (.slice 0) G σ=some (.sc (.int .i64 (gd.length))):=fun σ=>by have:=hG.1.len (σ:=σ); rwa [List.length_map] at this
 have hRn:∀ σ:AStore,aLen (.slice 0) SR σ=some (.sc (.int .i64 (rs.length))):=fun σ=>by have:=hR.1.len (σ:=σ); rwa [List.length_map] at this
 have hSn:∀ σ:AStore,aLen (.slice 0) SS σ=some (.sc (.int .i64 (ss.length))):=fun σ=>hS1.lenN hSl
 have hEx0:=hEx
 have hNo:=fun w:WD=>noneRC (w:=w) hEx
 obtain ⟨kk,nn,ii,rfl,rfl,rfl,kX,cX,iX⟩:∃ (kk:Int) (nn:ByteArray) (ii:Int),a=(.sc (.int .i64 (kk)))/\a2=.sc (.string nn)/\a3=(.sc (.int .i64 (ii)))/\a4.fit=true/\a4.cells=[a4]/\a4.isCell=true:=by
  obtain ⟨k,nm,i,l⟩:=cd
  simp only [IsEx] at hEx
  obtain ⟨S,els,he,hS,_⟩:=hEx
  simp only [AVal.agg.injEq,List.cons.injEq,and_true] at he
  obtain ⟨rfl,rfl,rfl,rfl⟩:=he
  exact ⟨_,_,_,rfl,rfl,rfl,hS.fit,hS.cells,hS.isCell⟩
 refine Gives.of gWF (.cons _ _ hwf (.cons _ _ hwu .nil)) 1 ?_
 obtain ⟨N,hN⟩:∃ N:AVal,N=.agg [(.sc (.int .i64 (n.clocks))),SV,SC,SF,SP]:=⟨_,rfl⟩
 obtain ⟨T,hT⟩:∃ T:AVal,T=.agg [(.sc (.int .i64 (fr))),(.sc (.int .i64 (to))),G,(.sc (.int .i64 (kk))),.sc (.string nn),(.sc (.int .i64 (ii))),a4,(.sc (.int .i64 (ch))),(.sc (.bool (snd))),SS,SR,(.sc (.int .i64 (cost))),(.sc (.int .i64 (kind)))]:=⟨_,rfl⟩
 refine of_110 rfl rfl rfl (by kernel_rfl) ?_
 simp -implicitDefEqProofs only [go_sem,kV,cV,iV,kC,cC,iC,kF,cF,iF,kP,cP,iP,kG,cG,iG,kX,cX,iX,kSS,cSS,iSS,kR,cR,iR]
 have g0:((empty.alloc (.cells 5 [.agg [(.sc (.int .i64 (n.clocks))),SV,SC,SF,SP]])).alloc (.cells 13 [.agg [(.sc (.int .i64 (fr))),(.sc (.int .i64 (to))),G,(.sc (.int .i64 (kk))),.sc (.string nn),(.sc (.int .i64 (ii))),a4,(.sc (.int .i64 (ch))),(.sc (.bool (snd))),SS,SR,(.sc (.int .i64 (cost))),(.sc (.int .i64 (kind)))]])).get 0=some (.cells 5 [.agg [(.sc (.int .i64 (n.clocks))),SV,SC,SF,SP]]):=by rw [AStore.get_alloc]; rfl
 have g1:((empty.alloc (.cells 5 [.agg [(.sc (.int .i64 (n.clocks))),SV,SC,SF,SP]])).alloc (.cells 13 [.agg [(.sc (.int .i64 (fr))),(.sc (.int .i64 (to))),G,(.sc (.int .i64 (kk))),.sc (.string nn),(.sc (.int .i64 (ii))),a4,(.sc (.int .i64 (ch))),(.sc (.bool (snd))),SS,SR,(.sc (.int .i64 (cost))),(.sc (.int .i64 (kind)))]])).get 1=some (.cells 13 [.agg [(.sc (.int .i64 (fr))),(.sc (.int .i64 (to))),G,(.sc (.int .i64 (kk))),.sc (.string nn),(.sc (.int .i64 (ii))),a4,(.sc (.int .i64 (ch))),(.sc (.bool (snd))),SS,SR,(.sc (.int .i64 (cost))),(.sc (.int .i64 (kind)))]]):=by rw [AStore.get_alloc]; rfl
 generalize (empty.alloc (.cells 5 [.agg [(.sc (.int .i64 (n.clocks))),SV,SC,SF,SP]])).alloc (.cells 13 [.agg [(.sc (.int .i64 (fr))),(.sc (.int .i64 (to))),G,(.sc (.int .i64 (kk))),.sc (.string nn),(.sc (.int .i64 (ii))),a4,(.sc (.int .i64 (ch))),(.sc (.bool (snd))),SS,SR,(.sc (.int .i64 (cost))),(.sc (.int .i64 (kind)))]])=τ0 at g0 g1 ⊢
 have hB:edRB n ⟨fr,to,gd,cd,ch,snd,ss,rs,cost,kind⟩=(((gd.all gcB && (noE cd || decide (expP nameB cd (n.vars.map Vr.nm) n.funcs=0))) && ss.all (seB n)) && rs.all rcB && (raB cost && wiB kind 2 && bareRB n.chans ⟨fr,to,gd,cd,ch,snd,ss,rs,cost,kind⟩)):=rfl
 generalize hBB:edRB n ⟨fr,to,gd,cd,ch,snd,ss,rs,cost,kind⟩=BB at hB ⊢
 (try (repeat' first|refine vw ?_ ?_<;>intro hq|refine vz ?_|simp -implicitDefEqProofs only [go_sem]))
 refine vlp (ι:=Nat) (fun j=>[(2,.ptr 0 0 0),(3,.ptr 1 0 0),(5,(.sc (.int .i64 (j))))]) (fun j τ=>j<=gd.length/\τ=τ0/\(gd.take j).all gcB=true) (fun j=>gd.length - j) (fun _=>rfl) 0 ?_ ?_ ?_
 ·exact vsu
 ·exact ⟨Nat.zero_le _,rfl,rfl⟩
 rintro j τ ⟨hj,rfl,hall⟩
 by_cases hlt:j < gd.length
 ·have d0:decide ((j:Int) < (gd.length:Int))=true:=dct (by omega)
  obtain ⟨x,hx⟩:∃ x,gd[j]?=some x:=⟨gd[j]'(by omega),by simp⟩
  have hx':(gd.map cnA)[j]?=some (cnA x):=by rw [List.getElem?_map,hx]; rfl
  have hix:=fun (σ:AStore)=>hG.1.idx (σ:=σ) (k:=.i64) hx'
  have hw:=wrapS (i:=j) (by omega)
  have hat:=all_take1 (P:=gcB) hx
  have hbad:gcB x=false->gd.all gcB=false:=fun h=>List.all_eq_false.2 ⟨x,List.mem_of_getElem? hx,by simp [h]⟩
  obtain ⟨xk,xl,xs,xc⟩:=x
  by_cases h1:xc < 0
  ·have d1:=dct h1
   simp -implicitDefEqProofs only [go_sem,g1,kG,cG,iG,kX,cX,iX,kSS,cSS,iSS,kR,cR,iR,hGn,d0]
   (repeat' first|refine vw ?_ ?_<;>intro hq|refine vz ?_|simp -implicitDefEqProofs only [go_sem,g1,kG,cG,iG,kX,cX,iX,kSS,cSS,iSS,kR,cR,iR,hGn,d0,hix,cnA,d1])
   refine ⟨_,_,rfl,rfl,_,rfl,?_⟩
   rw [hB,hbad (by simp [gcB]; omega)]
   simp
  have d1:=dcf h1
  by_cases h2:1048576 < xc
  ·have d2:=dct h2
   simp -implicitDefEqProofs only [go_sem,g1,kG,cG,iG,kX,cX,iX,kSS,cSS,iSS,kR,cR,iR,hGn,d0]
   (repeat' first|refine vw ?_ ?_<;>intro hq|refine vz ?_|simp -implicitDefEqProofs only [go_sem,g1,kG,cG,iG,kX,cX,iX,kSS,cSS,iSS,kR,cR,iR,hGn,d0,hix,cnA,d1,d2])
   refine ⟨_,_,rfl,rfl,_,rfl,?_⟩
   rw [hB,hbad (by simp [gcB]; omega)]
   simp
  have d2:=dcf h2
  simp -implicitDefEqProofs only [go_sem,g1,kG,cG,iG,kX,cX,iX,kSS,cSS,iSS,kR,cR,iR,hGn,d0]
  (repeat' first|refine vw ?_ ?_<;>intro hq|refine vz ?_|simp -implicitDefEqProofs only [go_sem,g1,kG,cG,iG,kX,cX,iX,kSS,cSS,iSS,kR,cR,iR,hGn,d0,hix,cnA,d1,d2,hw])
  refine ⟨j+1,vom,⟨vom,rfl,?_⟩,vsu⟩
  rw [hat,hall]
  simp [gcB]
  omega
 obtain rfl:j=gd.length:=by omega
 have d0:decide ((gd.length:Int) < (gd.length:Int))=false:=dcf (by omega)
 rw [List.take_length] at hall
 rw [hall] at hB
 simp -implicitDefEqProofs only [go_sem,g1,kG,cG,iG,kX,cX,iX,kSS,cSS,iSS,kR,cR,iR,hGn,d0]
 (repeat' first|refine vw ?_ ?_<;>intro hq|refine vz ?_|simp -implicitDefEqProofs only [go_sem,g1,kG,cG,iG,kX,cX,iX,kSS,cSS,iSS,kR,cR,iR,hGn,d0])
 refine (hNo _).use ?_
 apply Z_join (ι:=Unit) (fun _=>[(2,.ptr 0 0 0),(3,.ptr 1 0 0),(7,(.sc (.int .i64 (0))))]) (fun _ σ=>σ=τ/\(noE cd || decide (expP nameB cd (n.vars.map Vr.nm) n.funcs=0))=true) (fun _=>rfl)
 ·intro J
  cases hno:noE cd with
  | true=>
   rw [hno] at J
   simp -implicitDefEqProofs only [go_sem]
   refine vzf ?_
   simp -implicitDefEqProofs only [go_sem]
   refine J () _ _ ⟨rfl,rfl⟩ vsu
  | false=>
   rw [hno] at J
   simp -implicitDefEqProofs only [go_sem]
   refine vzt ?_
   simp -implicitDefEqProofs only [go_sem]
   ((try (refine Z_seq ?_; (try simp -implicitDefEqProofs only [go_sem]))); refine Z_draw (by kernel_rfl) [0,1,2,3,5,6,4,7,8] [(8,255),(7,127),(4,12),(6,32),(5,0),(3,4),(2,0),(1,1),(0,0)] (by kernel_rfl) (by kernel_rfl) ?_)
   simp -implicitDefEqProofs only [go_sem,g0,g1,kV,cV,iV,kC,cC,iC,kF,cF,iF,kP,cP,iP,kG,cG,iG,kX,cX,iX,kSS,cSS,iSS,kR,cR,iR]
   refine (hvC _).useD ?_
   rintro S hS
   simp -implicitDefEqProofs only [go_sem,g0,g1,kV,cV,iV,kC,cC,iC,kF,cF,iF,kP,cP,iP,kG,cG,iG,kX,cX,iX,kSS,cSS,iSS,kR,cR,iR]
   refine (hEC _ S _ cd hEx0 hxb hS).useD ?_
   by_cases hy:expP nameB cd (n.vars.map Vr.nm) n.funcs=0
   ·have d1:=dct hy
    simp -implicitDefEqProofs only [go_sem,d1]
    refine vzf ?_
    simp -implicitDefEqProofs only [go_sem]
    refine J () _ _ ⟨rfl,by rw [d1]; rfl⟩ vsu
   ·have d1:=dcf hy
    simp -implicitDefEqProofs only [go_sem,d1]
    (try (repeat' first|refine vw ?_ ?_<;>intro hq|refine vz ?_|simp -implicitDefEqProofs only [go_sem,d1]))
    refine ⟨_,_,rfl,rfl,_,rfl,?_⟩
    rw [hB,hno,d1]
    simp [hy]
 ·rintro _ σ1 ⟨rfl,hcd⟩
  rw [hcd] at hB
  refine vlp (ι:=Nat) (fun j=>[(2,.ptr 0 0 0),(3,.ptr 1 0 0),(7,(.sc (.int .i64 (j))))]) (fun j τ=>j<=ss.length/\τ=σ1/\(ss.take j).all (seB n)=true) (fun j=>ss.length - j) (fun _=>rfl) 0 ?_ ?_ ?_
  ·exact vsu
  ·exact ⟨Nat.zero_le _,rfl,rfl⟩
  rintro j τ ⟨hj,rfl,hss⟩
  by_cases hlt:j < ss.length
  ·have d0:decide ((j:Int) < (ss.length:Int))=true:=dct (by omega)
   obtain ⟨x,hx⟩:∃ x,ss[j]?=some x:=⟨ss[j]'(by omega),by simp⟩
   obtain ⟨ex,hex,a9,rfl,hxe,_⟩:=hSat j x hx
   have hix:=fun (σ:AStore)=>hS1.idx (σ:=σ) (k:=.i64) hex
   have hw:=wrapS (i:=j) (by omega)
   have hat:=all_take1 (P:=seB n) hx
   have hbad:seB n x=false->ss.all (seB n)=false:=fun h=>List.all_eq_false.2 ⟨x,List.mem_of_getElem? hx,by simp [h]⟩
   have hxn:=hsb x (List.mem_of_getElem? hx)
   obtain ⟨k2,n2,i2,s2,rfl,kY,cY,iY⟩:∃ (k2:Int) (n2:ByteArray) (i2:Int) (s2:AVal),a9=[(.sc (.int .i64 (k2))),.sc (.string n2),(.sc (.int .i64 (i2))),s2]/\s2.fit=true/\s2.cells=[s2]/\s2.isCell=true:=by
    have hxe':=hxe
    generalize x.e=xe at hxe'
    obtain ⟨k,nm,i,l⟩:=xe
    simp only [IsEx] at hxe'
    obtain ⟨S,els,he,hS,_⟩:=hxe'
    simp only [AVal.agg.injEq] at he
    exact ⟨_,_,_,_,he,hS.fit,hS.cells,hS.isCell⟩
   simp -implicitDefEqProofs only [go_sem,g1,kG,cG,iG,kX,cX,iX,kSS,cSS,iSS,kR,cR,iR,hSn,d0]
   (repeat' first|refine vw ?_ ?_<;>intro hq|refine vz ?_|simp -implicitDefEqProofs only [go_sem,g1,kG,cG,iG,kX,cX,iX,kSS,cSS,iSS,kR,cR,iR,hSn,d0])
   ((try (refine Z_seq ?_; (try simp -implicitDefEqProofs only [go_sem]))); refine Z_draw (by kernel_rfl) [0,1,2,3,4,5,6,7,9,10,8,11,12] [(12,4095),(11,2047),(8,192),(10,512),(9,0),(7,64),(6,0),(5,31),(4,15),(3,7),(2,0),(1,1),(0,0)] (by kernel_rfl) (by kernel_rfl) ?_)
   simp -implicitDefEqProofs only [go_sem,g0,g1,kV,cV,iV,kC,cC,iC,kF,cF,iF,kP,cP,iP,kG,cG,iG,kX,cX,iX,kSS,cSS,iSS,kR,cR,iR,hix,kY,cY,iY]
   refine (hvC _).useD ?_
   rintro S hS
   simp -implicitDefEqProofs only [go_sem,g0,g1,kV,cV,iV,kC,cC,iC,kF,cF,iF,kP,cP,iP,kG,cG,iG,kX,cX,iX,kSS,cSS,iSS,kR,cR,iR]
   refine (hEC _ S _ x.e hxe hxn hS).useD ?_
   by_cases hy:expP nameB x.e (n.vars.map Vr.nm) n.funcs=0
   ·have d1:=dct hy
    simp -implicitDefEqProofs only [go_sem,d1,hw]
    (try (repeat' first|refine vw ?_ ?_<;>intro hq|refine vz ?_|simp -implicitDefEqProofs only [go_sem,d1,hw]))
    refine ⟨j+1,vom,⟨vom,rfl,?_⟩,vsu⟩
    rw [hat,hss]
    exact d1
   ·have d1:=dcf hy
    simp -implicitDefEqProofs only [go_sem,d1]
    (try (repeat' first|refine vw ?_ ?_<;>intro hq|refine vz ?_|simp -implicitDefEqProofs only [go_sem,d1]))
    refine ⟨_,_,rfl,rfl,_,rfl,?_⟩
    rw [hB,hbad d1]
    simp [hy]
  obtain rfl:j=ss.length:=by omega
  have d0:decide ((ss.length:Int) < (ss.length:Int))=false:=dcf (by omega)
  rw [List.take_length] at hss
  rw [hss] at hB
  simp -implicitDefEqProofs only [go_sem,g1,kG,cG,iG,kX,cX,iX,kSS,cSS,iSS,kR,cR,iR,hSn,d0]
  (try (repeat' first|refine vw ?_ ?_<;>intro hq|refine vz ?_|simp -implicitDefEqProofs only [go_sem,g1,kG,cG,iG,kX,cX,iX,kSS,cSS,iSS,kR,cR,iR,hSn,d0]))
  refine vlp (ι:=Nat) (fun j=>[(2,.ptr 0 0 0),(3,.ptr 1 0 0),(9,(.sc (.int .i64 (j))))]) (fun j σ=>j<=rs.length/\σ=τ/\(rs.take j).all rcB=true) (fun j=>rs.length - j) (fun _=>rfl) 0 ?_ ?_ ?_
  ·exact vsu
  ·exact ⟨Nat.zero_le _,rfl,rfl⟩
  rintro j σ1 ⟨hj,rfl,hrs⟩
  by_cases hlt:j < rs.length
  ·have d0:decide ((j:Int) < (rs.length:Int))=true:=dct (by omega)
   obtain ⟨x,hx⟩:∃ x,rs[j]?=some x:=⟨rs[j]'(by omega),by simp⟩
   have hx':(rs.map rtA)[j]?=some (rtA x):=by rw [List.getElem?_map,hx]; rfl
   have hix:=fun (σ:AStore)=>hR.1.idx (σ:=σ) (k:=.i64) hx'
   have hw:=wrapS (i:=j) (by omega)
   have hat:=all_take1 (P:=rcB) hx
   have hbad:rcB x=false->rs.all rcB=false:=fun h=>List.all_eq_false.2 ⟨x,List.mem_of_getElem? hx,by simp [h]⟩
   obtain ⟨xk,xc⟩:=x
   by_cases h1:xc < 0
   ·have d1:=dct h1
    simp -implicitDefEqProofs only [go_sem,g1,kG,cG,iG,kX,cX,iX,kSS,cSS,iSS,kR,cR,iR,hRn,d0]
    (repeat' first|refine vw ?_ ?_<;>intro hq|refine vz ?_|simp -implicitDefEqProofs only [go_sem,g1,kG,cG,iG,kX,cX,iX,kSS,cSS,iSS,kR,cR,iR,hRn,d0,hix,rtA,d1])
    refine ⟨_,_,rfl,rfl,_,rfl,?_⟩
    rw [hB,hbad (by simp [rcB]; omega)]
    simp
   have d1:=dcf h1
   by_cases h2:1048576 < xc
   ·have d2:=dct h2
    simp -implicitDefEqProofs only [go_sem,g1,kG,cG,iG,kX,cX,iX,kSS,cSS,iSS,kR,cR,iR,hRn,d0]
    (repeat' first|refine vw ?_ ?_<;>intro hq|refine vz ?_|simp -implicitDefEqProofs only [go_sem,g1,kG,cG,iG,kX,cX,iX,kSS,cSS,iSS,kR,cR,iR,hRn,d0,hix,rtA,d1,d2])
    refine ⟨_,_,rfl,rfl,_,rfl,?_⟩
    rw [hB,hbad (by simp [rcB]; omega)]
    simp
   have d2:=dcf h2
   simp -implicitDefEqProofs only [go_sem,g1,kG,cG,iG,kX,cX,iX,kSS,cSS,iSS,kR,cR,iR,hRn,d0]
   (repeat' first|refine vw ?_ ?_<;>intro hq|refine vz ?_|simp -implicitDefEqProofs only [go_sem,g1,kG,cG,iG,kX,cX,iX,kSS,cSS,iSS,kR,cR,iR,hRn,d0,hix,rtA,d1,d2,hw])
   refine ⟨j+1,vom,⟨vom,rfl,?_⟩,vsu⟩
   rw [hat,hrs]
   simp [rcB]
   omega
  obtain rfl:j=rs.length:=by omega
  have d0:decide ((rs.length:Int) < (rs.length:Int))=false:=dcf (by omega)
  rw [List.take_length] at hrs
  rw [hrs] at hB
  simp only [List.all_nil,Bool.true_and,Bool.and_true] at hB
  have hl0:decide ((gd.length:Int)=0)=decide (gd.length=0):=decide_eq_decide.2 (by omega)
  have hbc:(ch < 0/\bareRB n.chans ⟨fr,to,gd,cd,ch,snd,ss,rs,cost,kind⟩=true)\/∃ (m:Nat) (c:Ch),ch=(m:Int)/\n.chans[m]?=some c/\bareRB n.chans ⟨fr,to,gd,cd,ch,snd,ss,rs,cost,kind⟩=(!(c.ur || c.bc && !snd) || decide (gd.length=0)):=by
   by_cases hc0:0<=ch
   ·obtain ⟨m,rfl⟩:∃ m:Nat,ch=m:=⟨ch.toNat,vom⟩
    have hml:m < n.chans.length:=by omega
    refine .inr ⟨m,n.chans[m],rfl,by simp,?_⟩
    simp [bareRB,hml]
   ·refine .inl ⟨vom,?_⟩
    simp [bareRB,hc0]
  have hra:raB cost=(decide (0<=cost) && decide (cost<=1000)):=rfl
  have hki:wiB kind 2=(decide (kind=0) || decide (kind=1)):=by
   unfold wiB
   rw [Bool.eq_iff_iff]
   simp only [Bool.and_eq_true,Bool.or_eq_true,decide_eq_true_eq]
   omega
  rw [hra,hki] at hB
  have fin1:BB=true->∃ u v,AEnd.ret (.sc (.int .i64 (0)))=AEnd.ret u/\frz σ1 1 u=some v/\∃ e:Int,v=(.sc (.int .i64 (e)))/\(e=0 ↔ BB=true):=fun h=>⟨_,_,rfl,rfl,_,rfl,by simp [h]⟩
  have fin0:BB=false->∃ u v,AEnd.ret (.sc (.int .i64 (120)))=AEnd.ret u/\frz σ1 1 u=some v/\∃ e:Int,v=(.sc (.int .i64 (e)))/\(e=0 ↔ BB=true):=fun h=>⟨_,_,rfl,rfl,_,rfl,by simp [h]⟩
  rcases hbc with ⟨hc0,hbr⟩|⟨m,c,rfl,hm,hbr⟩
  ·have d5:decide (0<=ch)=false:=dcf (by omega)
   rw [hbr] at hB
   simp only [Bool.and_true] at hB
   simp -implicitDefEqProofs only [go_sem,g1,kG,cG,iG,kX,cX,iX,kSS,cSS,iSS,kR,cR,iR,hRn,d0]
   (repeat' first|refine vw ?_ ?_<;>intro hq|refine vz ?_|simp -implicitDefEqProofs only [go_sem,g1,kG,cG,iG,kX,cX,iX,kSS,cSS,iSS,kR,cR,iR,hRn,d0,d5])
   all_goals (refine (ruleRC _).use ?_; simp -implicitDefEqProofs only [go_sem]; (try split)<;>(try (rename_i hz; simp only [decide_eq_true_eq] at hz))<;>first|exact fin1 (by rw [hB]; (rw [Bool.eq_iff_iff]; simp only [Bool.or_eq_true,Bool.and_eq_true,Bool.not_eq_true',decide_eq_true_eq,decide_eq_false_iff_not,Bool.true_eq_false,Bool.false_eq_true,iff_true,true_iff,iff_false,false_iff]; omega))|exact fin0 (by rw [hB]; (rw [Bool.eq_iff_iff]; simp only [Bool.or_eq_true,Bool.and_eq_true,Bool.not_eq_true',decide_eq_true_eq,decide_eq_false_iff_not,Bool.true_eq_false,Bool.false_eq_true,iff_true,true_iff,iff_false,false_iff]; omega)))
  ·have d5:decide ((0:Int)<=(m:Int))=true:=dct (by omega)
   have hm':(n.chans.map chA)[m]?=some (chA c):=by rw [List.getElem?_map,hm]; rfl
   have hix:=fun (σ:AStore)=>hC.idx (σ:=σ) (k:=.i64) hm'
   obtain ⟨cnm,bc,ur⟩:=c
   simp only at hbr
   rw [hbr] at hB
   cases ur<;>cases bc<;>cases snd
   all_goals
    simp only [Bool.or_false,Bool.or_true,Bool.false_or,Bool.true_or,Bool.and_true,Bool.and_false,Bool.false_and,Bool.true_and,Bool.not_true,Bool.not_false] at hB
    simp -implicitDefEqProofs only [go_sem,g1,kG,cG,iG,kX,cX,iX,kSS,cSS,iSS,kR,cR,iR,hRn,d0]
    (repeat' first|refine vw ?_ ?_<;>intro hq|refine vz ?_|simp -implicitDefEqProofs only [go_sem,g0,g1,kG,cG,iG,kX,cX,iX,kSS,cSS,iSS,kR,cR,iR,kV,cV,iV,kC,cC,iC,kF,cF,iF,kP,cP,iP,hRn,hGn,hl0,d0,d5,hix,chA])
   all_goals (refine (ruleRC _).use ?_; simp -implicitDefEqProofs only [go_sem]; (try split)<;>(try (rename_i hz; simp only [decide_eq_true_eq] at hz))<;>first|exact fin1 (by rw [hB]; (rw [Bool.eq_iff_iff]; simp only [Bool.or_eq_true,Bool.and_eq_true,Bool.not_eq_true',decide_eq_true_eq,decide_eq_false_iff_not,Bool.true_eq_false,Bool.false_eq_true,iff_true,true_iff,iff_false,false_iff]; omega))|exact fin0 (by rw [hB]; (rw [Bool.eq_iff_iff]; simp only [Bool.or_eq_true,Bool.and_eq_true,Bool.not_eq_true',decide_eq_true_eq,decide_eq_false_iff_not,Bool.true_eq_false,Bool.false_eq_true,iff_true,true_iff,iff_false,false_iff]; omega)))
theorem la_cons {α:Type} {a:α} {l m:List α}:List.append (a::l) m=a::List.append l m:=rfl
theorem la_nil {α:Type} {m:List α}:List.append [] m=m:=rfl
def lcRB (clocks:Int) (y:Lc):Bool:=(decide (0<=y.kind) && decide (y.kind<=2)) && (y.inv.all (ckB clocks) && decide (y.inv.length<=16)) && (decide (0<=y.rate) && decide (y.rate<=1000)) && y.inv.all upB
def svB (n:Nt) (s:Sg):Bool:=decide (0<=s.v) && decide (s.v < n.vars.length)
def rkB (clocks:Int) (x:Rt):Bool:=decide (1<=x.k) && decide (x.k<=clocks)
def egRB (n:Nt) (p:Pr) (x:Eg):Bool:=((((((decide (0<=x.fr) && decide (x.fr < p.locs.length)) && (decide (0<=x.to) && decide (x.to < p.locs.length))) && (x.gd.all (ckB n.clocks) && decide (x.gd.length<=16))) && ((decide (-1<=x.ch) && decide (x.ch < n.chans.length)) && !(decide (x.ch < 0) && x.snd))) && (decide (x.ss.length<=16) && decide (x.rs.length<=16))) && (noE x.cd || decide (checkE nameB x.cd=0))) && x.ss.all (svB n) && x.rs.all (rkB n.clocks) && edRB n x
def prR0 (p:Pr):Bool:=(decide (p.locs.length≠0) && decide (p.locs.length<=20) && decide (p.egs.length<=60)) && (decide (0<=p.ini) && decide (p.ini < p.locs.length))
def prRB (n:Nt) (p:Pr):Bool:=prR0 p && p.locs.all (lcRB n.clocks) && p.egs.all (egRB n p)
theorem all_and {α:Type} (l:List α) (f g:α->Bool):(l.all f && l.all g)=l.all fun x=>f x && g x:=by
 induction l with
 | nil=>rfl
 | cons a l ih=>
  simp only [List.all_cons]
  rw [<-ih]
  cases f a<;>cases g a<;>cases l.all f<;>cases l.all g<;>rfl
theorem all_congr {α:Type} {l:List α} {f g:α->Bool} (h:∀ x∈l,f x=g x):l.all f=l.all g:=by
 induction l with
 | nil=>rfl
 | cons a l ih=>
  simp only [List.all_cons]
  rw [h a (by simp),ih fun x hx=>h x (by simp [hx])]
theorem lcRB_eq (clocks:Int) (y:Lc):lcRB clocks y=lcB clocks y:=by
 have h1:(y.inv.all (ckB clocks) && y.inv.all upB)=(y.inv.all (cnB clocks) && y.inv.all upB):=by
  rw [all_and,all_and]
  refine all_congr fun x _=>?_
  rw [Bool.eq_iff_iff]
  simp only [ckB,upB,cnB,wiB,ctB,Bool.and_eq_true,Bool.or_eq_true,Bool.not_eq_true',decide_eq_true_eq]
  constructor
  ·rintro ⟨⟨a,b⟩,⟨⟨c,d,e⟩,f⟩⟩
   exact ⟨⟨vom,vom⟩,⟨c,d,e⟩,f⟩
  ·rintro ⟨⟨a,b⟩,⟨⟨c,d,e⟩,f⟩⟩
   exact ⟨⟨vom,vom⟩,⟨c,d,e⟩,f⟩
 have h2:(decide (0<=y.kind) && decide (y.kind<=2))=wiB y.kind 3:=by
  unfold wiB
  rw [Bool.eq_iff_iff]
  simp only [Bool.and_eq_true,decide_eq_true_eq]
  omega
 have h3:(decide (0<=y.rate) && decide (y.rate<=1000))=raB y.rate:=rfl
 unfold lcRB lcB cnsB
 rw [h2,h3]
 revert h1
 cases y.inv.all (ckB clocks)<;>cases y.inv.all upB<;>cases y.inv.all (cnB clocks)<;>cases wiB y.kind 3<;>cases raB y.rate<;>cases decide (y.inv.length<=16)<;>decide
theorem expP_check {x:Ex} {g:List ByteArray} {l:List Fc} (h:expP nameB x g l=0):checkE nameB x=0:=by
 rw [expP_if] at h
 by_cases hc:checkE nameB x=0
 ·exact hc
 ·rw [if_neg hc] at h
  exact h
theorem egRB_eq (n:Nt) (p:Pr) (x:Eg):egRB n p x=egB n p x:=by
 rw [Bool.eq_iff_iff]
 simp only [egRB,egB,egB1,egB3,edRB,cnsB,bareRB_eq,Bool.and_eq_true,Bool.or_eq_true,Bool.not_eq_true',Bool.and_eq_false_iff,decide_eq_true_eq,decide_eq_false_iff_not,List.all_eq_true,wiB]
 constructor
 ·rintro ⟨⟨⟨⟨⟨⟨⟨⟨⟨a1,a2⟩,a3,a4⟩,a5,a6⟩,⟨a7,a8⟩,a9⟩,b1,b2⟩,b3⟩,b4⟩,b5⟩,⟨⟨⟨⟨c1,c2⟩,c3⟩,c4⟩,⟨c5,c6,c7⟩,c8⟩⟩
  refine ⟨⟨⟨⟨⟨⟨⟨⟨⟨a1,a2⟩,a3,a4⟩,?_⟩,a6,fun y hy=>?_⟩,⟨⟨b1,b2⟩,c5⟩,c6,c7⟩,fun y hy=>?_⟩,c2⟩,fun y hy=>?_⟩,c8⟩
  ·by_cases h:x.ch < 0
   ·rcases a9 with h9|h9
    ·exact absurd h h9
    ·exact .inl ⟨vom,h9⟩
   ·exact .inr ⟨vom,a8⟩
  ·have h1:=a5 y hy
   have h2:=c1 y hy
   simp only [ckB,gcB,cnB,wiB,ctB,Bool.and_eq_true,decide_eq_true_eq] at h1 h2 ⊢
   exact ⟨⟨vom,vom⟩,h2⟩
  ·have h1:=b5 y hy
   have h2:=c4 y hy
   simp only [rkB,rcB,rtB,wiB,ctB,Bool.and_eq_true,decide_eq_true_eq] at h1 h2 ⊢
   exact ⟨⟨vom,vom⟩,h2⟩
  ·have h1:=b4 y hy
   have h2:=c3 y hy
   simp only [svB,seB,sgB,wiB,Bool.and_eq_true,decide_eq_true_eq] at h1 h2 ⊢
   exact ⟨h1,h2⟩
 ·rintro ⟨⟨⟨⟨⟨⟨⟨⟨⟨a1,a2⟩,a3,a4⟩,a5⟩,a6,a7⟩,⟨⟨b1,b2⟩,c5⟩,c6,c7⟩,b3⟩,c2⟩,b4⟩,c8⟩
  refine ⟨⟨⟨⟨⟨⟨⟨⟨⟨a1,a2⟩,a3,a4⟩,fun y hy=>?_,a6⟩,⟨?_,?_⟩,?_⟩,b1,b2⟩,?_⟩,fun y hy=>?_⟩,fun y hy=>?_⟩,⟨⟨⟨⟨fun y hy=>?_,c2⟩,fun y hy=>?_⟩,fun y hy=>?_⟩,⟨c5,c6,c7⟩,c8⟩⟩
  ·have h1:=a7 y hy
   simp only [ckB,cnB,wiB,ctB,Bool.and_eq_true,decide_eq_true_eq] at h1 ⊢
   exact ⟨vom,vom⟩
  ·rcases a5 with ⟨h,_⟩|⟨h,_⟩<;>omega
  ·rcases a5 with ⟨h,_⟩|⟨_,h⟩<;>omega
  ·rcases a5 with ⟨_,h⟩|⟨h,_⟩
   ·exact .inr h
   ·exact .inl (by omega)
  ·rcases c2 with h|h
   ·exact .inl h
   ·exact .inr (expP_check h)
  ·have h1:=b4 y hy
   simp only [svB,sgB,wiB,Bool.and_eq_true,decide_eq_true_eq] at h1 ⊢
   exact h1.1
  ·have h1:=b3 y hy
   simp only [rkB,rtB,wiB,ctB,Bool.and_eq_true,decide_eq_true_eq] at h1 ⊢
   exact ⟨vom,vom⟩
  ·have h1:=a7 y hy
   simp only [gcB,cnB,wiB,ctB,Bool.and_eq_true,decide_eq_true_eq] at h1 ⊢
   exact h1.2
  ·have h1:=b4 y hy
   simp only [seB,sgB,wiB,Bool.and_eq_true,decide_eq_true_eq] at h1 ⊢
   exact h1.2
  ·have h1:=b3 y hy
   simp only [rcB,rtB,wiB,ctB,Bool.and_eq_true,decide_eq_true_eq] at h1 ⊢
   exact h1.2
theorem prRB_eq (n:Nt) (p:Pr):prRB n p=prB n p:=by
 have h1:prR0 p=prB0 p:=by
  rw [Bool.eq_iff_iff]
  simp only [prR0,prB0,wiB,Bool.and_eq_true,decide_eq_true_eq,decide_not,Bool.not_eq_true',decide_eq_false_iff_not]
  omega
 unfold prRB prB
 rw [h1,all_congr (fun y _=>lcRB_eq n.clocks y),all_congr (fun x _=>egRB_eq n p x)]
end Abs
end
