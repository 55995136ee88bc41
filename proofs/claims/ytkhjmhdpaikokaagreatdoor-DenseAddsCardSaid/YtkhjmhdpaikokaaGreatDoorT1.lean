/-
  Functions of the program walked: each is shown to compute a plain function (T1).
-/
import Derived.Test.YtkhjmhdpaikokaaGreatDoorTF
set_option linter.unusedSimpArgs false
set_option linter.unusedVariables false
set_option maxRecDepth 100000
set_option maxHeartbeats 16000000
noncomputable section
namespace Abs
open Go Go.Proofs
def uA (n:Nat):AVal:=.sc (.int .u8 (n:Int))
def letB (n:Nat):Bool:=(decide (97<=n) && decide (n<=122)) || (decide (65<=n) && decide (n<=90))
def digB (n:Nat):Bool:=decide (48<=n) && decide (n<=57)
theorem ret_bool {σ:AStore} {n:Nat} {b c:Bool} (h:b=c):∃ u,AEnd.ret (.sc (.bool (b)))=AEnd.ret u/\frz σ (n+1) u=some (.sc (.bool (c))):=⟨_,rfl,by rw [h]; rfl⟩
def or8 (a b:Int):Int:=IntKind.u8.wrap (((BitVec.ofInt 8 a) ||| BitVec.ofInt 8 b).toNat:Int)
theorem or32 {n:Nat} (h:n < 256):or8 (n:Int) 32=((n ||| 32:Nat):Int):=by
 unfold or8
 have h1:(BitVec.ofInt 8 (n:Int)).toNat=n:=by simp; omega
 have h2:((BitVec.ofInt 8 (n:Int)) ||| BitVec.ofInt 8 32).toNat=n ||| 32:=by
  rw [BitVec.toNat_or,h1]; rfl
 rw [h2]
 have h3:n ||| 32 < 256:=Nat.or_lt_two_pow (n:=8) h (by decide)
 have key:∀ x:Int,IntKind.u8.wrap x=x % 2 ^ 8:=fun x=>by simp [IntKind.wrap,IntKind.bits,IntKind.signed]
 rw [key]
 generalize n ||| 32=m at h3 ⊢
 omega
theorem or32_let:∀ n,n < 256->(decide (97<=n ||| 32) && decide (n ||| 32<=122))=letB n:=by decide
theorem sc_or {a b:Int}:scBin .or (.int .u8 a) (.int .u8 b)=some (.int .u8 (or8 a b)):=by simp only [scBin,if_true]; rfl
theorem letterC {w:WD} (n:Nat) (h:n < 256):GivesV (EE w) 91 [uA n] (.sc (.bool (letB n))):=by
 refine GivesV.of gWF (.cons _ _ (.sc _) .nil) 1 ?_
 have ho:=or32 h
 rw [<-or32_let n h]
 generalize (n ||| 32:Nat)=m at ho
 refine of_91 rfl rfl rfl (by kernel_rfl) ?_
 (repeat' first|refine vw ?_ ?_<;>intro hq|refine vz ?_|simp -implicitDefEqProofs only [go_sem,uA,sc_or,ho])
 all_goals (refine ret_bool ?_; (rw [Bool.eq_iff_iff]; simp only [Bool.or_eq_true,Bool.and_eq_true,Bool.not_eq_true',decide_eq_true_eq,decide_eq_false_iff_not,Bool.true_eq_false,Bool.false_eq_true,iff_true,true_iff,iff_false,false_iff]; omega))
theorem digitC {w:WD} (n:Nat):GivesV (EE w) 94 [uA n] (.sc (.bool (digB n))):=by
 refine GivesV.of gWF (.cons _ _ (.sc _) .nil) 1 ?_
 refine of_94 rfl rfl rfl (by kernel_rfl) ?_
 (repeat' first|refine vw ?_ ?_<;>intro hq|refine vz ?_|simp -implicitDefEqProofs only [go_sem,uA])
 all_goals (refine ret_bool ?_; unfold digB; (rw [Bool.eq_iff_iff]; simp only [Bool.or_eq_true,Bool.and_eq_true,Bool.not_eq_true',decide_eq_true_eq,decide_eq_false_iff_not,Bool.true_eq_false,Bool.false_eq_true,iff_true,true_iff,iff_false,false_iff]; omega))
theorem mem_of_at {l:List ByteArray} {i:Nat} {x:ByteArray} (h:l[i]?=some x):x∈l:=List.mem_of_getElem? h
theorem not_mem_of {l:List ByteArray} {s:ByteArray} (h:∀ (j:Nat) x,j < l.length->l[j]?=some x->x≠s):s ∉ l:=by
 intro hm
 obtain ⟨j,hj,rfl⟩:=List.mem_iff_getElem.1 hm
 exact h j _ hj (List.getElem?_eq_getElem hj) rfl
theorem indexC {w:WD} {L:AVal} {l:List ByteArray} (h:IsD 1 L (l.map sA)) (hl:l.length<=1152921504606846976) (s:ByteArray):Gives (EE w) 129 [L,sA s] fun v=>∃ k:Int,v=(.sc (.int .i64 (k)))/\(0<=k ↔ s∈l):=by
 refine Gives.of gWF (.cons _ _ (h.wf (wf_sA l)) (.cons _ _ (.sc _) .nil)) 1 ?_
 refine of_129 rfl rfl rfl (by kernel_rfl) ?_
 simp -implicitDefEqProofs only [go_sem,h.len,List.length_map]
 refine vlp (ι:=Nat) (fun i=>[(0,L),(1,sA s),(7,(.sc (.int .i64 (l.length)))),(8,(.sc (.int .i64 (i))))]) (fun i σ=>i<=l.length/\∀ (j:Nat) x,j < i->l[j]?=some x->x≠s) (fun i=>l.length - i) (fun _=>rfl) 0 ?_ ?_ ?_
 ·exact vsu
 ·exact ⟨Nat.zero_le _,fun j x hj=>by omega⟩
 rintro i σ ⟨hi,hok⟩
 simp -implicitDefEqProofs only [go_sem]
 (refine vif ?_ ?_<;>intro h2)
 ·obtain ⟨x,hx⟩:∃ x,l[i]?=some x:=⟨l[i]'(by omega),by simp⟩
  have hx':(l.map sA)[i]?=some (sA x):=by simp [hx]
  have hw:=wrapS (i:=i) (by omega)
  by_cases h3:s=x
  ·(repeat' first|refine vw ?_ ?_<;>intro hq|refine vz ?_|simp -implicitDefEqProofs only [go_sem,h.idx hx',sA,ba_list,dct h3,hw])
   exact ⟨_,_,rfl,rfl,_,rfl,fun _=>h3 ▸ mem_of_at hx,fun _=>by omega⟩
  ·(repeat' first|refine vw ?_ ?_<;>intro hq|refine vz ?_|simp -implicitDefEqProofs only [go_sem,h.idx hx',sA,ba_list,dcf h3,hw])
   refine ⟨i+1,vom,⟨vom,?_⟩,?_⟩
   ·intro j q hj hq
    rcases Nat.lt_or_ge j i with h'|h'
    ·exact hok j q h' hq
    ·obtain rfl:j=i:=by omega
     rw [hx] at hq; cases hq; exact fun hc=>h3 hc.symm
   ·exact vsu
 ·obtain rfl:i=l.length:=by omega
  (repeat' first|refine vw ?_ ?_<;>intro hq|refine vz ?_|simp -implicitDefEqProofs only [go_sem])
  exact ⟨_,_,rfl,rfl,_,rfl,fun hc=>by omega,fun hc=>absurd hc (not_mem_of hok)⟩
theorem containsC {w:WD} {L:AVal} {l:List ByteArray} (h:IsD 1 L (l.map sA)) (hl:l.length<=1152921504606846976) (s:ByteArray):GivesV (EE w) 92 [L,sA s] (.sc (.bool (decide (s∈l)))):=by
 refine GivesV.of gWF (.cons _ _ (h.wf (wf_sA l)) (.cons _ _ (.sc _) .nil)) 1 ?_
 refine of_92 rfl rfl rfl (by kernel_rfl) ?_
 simp -implicitDefEqProofs only [go_sem]
 refine (indexC h hl s).use ?_
 rintro _ ⟨k,rfl,hk⟩
 (repeat' first|refine vw ?_ ?_<;>intro hq|refine vz ?_|simp -implicitDefEqProofs only [go_sem])
 exact ret_bool (decide_eq_decide.mpr hk)
def wordsL:List ByteArray:=[⟨#[109,111,100,101,108]⟩,⟨#[99,108,111,99,107]⟩,⟨#[118,97,114]⟩,⟨#[105,110]⟩,⟨#[99,104,97,110]⟩,⟨#[98,114,111,97,100,99,97,115,116]⟩,⟨#[117,114,103,101,110,116]⟩,⟨#[99,111,109,109,105,116,116,101,100]⟩,⟨#[102,117,110,99]⟩,⟨#[112,114,111,99,101,115,115]⟩,⟨#[105,110,105,116]⟩,⟨#[108,111,99]⟩,⟨#[105,110,118]⟩,⟨#[114,97,116,101]⟩,⟨#[101,100,103,101]⟩,⟨#[119,104,101,110]⟩,⟨#[105,102]⟩,⟨#[101,108,115,101]⟩,⟨#[119,104,105,108,101]⟩,⟨#[114,101,116,117,114,110]⟩,⟨#[115,121,110,99]⟩,⟨#[100,111]⟩,⟨#[114,101,115,101,116]⟩,⟨#[99,111,115,116]⟩,⟨#[107,105,110,100]⟩]
theorem words_len:wordsL.length<=1152921504606846976:=by show 25<=_; omega
theorem reservedC {w:WD}:GivesV (EE w) 93 [] (.data 1 false (wordsL.map sA)):=by
 refine GivesV.of gWF .nil 3 ?_
 refine of_93 rfl rfl rfl (by kernel_rfl) ?_
 (repeat' first|refine vw ?_ ?_<;>intro hq|refine vz ?_|simp -implicitDefEqProofs only [go_sem])
 exact ⟨_,rfl,by kernel_rfl⟩
theorem wordsD:IsD 1 (.data 1 false (wordsL.map sA)) (wordsL.map sA):=.inr ⟨_,rfl⟩
def chB (n:Nat):Bool:=letB n || (digB n || decide (n=95))
def nameB (s:ByteArray):Bool:=
 decide (s.size≠0) && (decide (s.size<=16) && ((match s.data.toList with|[]=>false|c::_=>letB c.toNat) && (!decide (s∈wordsL) && s.data.toList.all fun c=>chB c.toNat)))
theorem ixs {σ:AStore} {s:ByteArray} {i:Nat} {b:UInt8} (h:s.data.toList[i]?=some b):aIndexStr (.sc (.string s)) (.sc (.int .i64 (i:Int)))=some (uA b.toNat):=by
 have h1:s[i]?=some b:=by
  have hi:i < s.data.toList.length:=by
   rcases Nat.lt_or_ge i s.data.toList.length with h'|h'
   ·exact h'
   ·rw [List.getElem?_eq_none h'] at h; cases h
  have hi2:i < s.size:=by simpa using hi
  rw [getElem?_pos s i hi2]
  rw [List.getElem?_eq_getElem hi] at h
  simp only [Option.some.injEq] at h ⊢
  rw [<-h]
  simp [ByteArray.getElem_eq_getElem_data]
 simp [aIndexStr,h1,uA]
theorem name_all {s:ByteArray} {c:UInt8} {cs:List UInt8} (hs:s.data.toList=c::cs):nameB s=(decide (s.size<=16) && (letB c.toNat && (!decide (s∈wordsL) && s.data.toList.all fun c=>chB c.toNat))):=by
 have:s.size≠0:=by
  intro h0
  have:s.data.toList.length=0:=by simpa using h0
  rw [hs] at this; simp at this
 unfold nameB
 rw [hs,dct this,Bool.true_and]
theorem bytes_len {s:ByteArray}:s.data.toList.length=s.size:=by simp
theorem all_bad {l:List UInt8} {i:Nat} {b:UInt8} (h:l[i]?=some b) (hb:chB b.toNat=false):(l.all fun c=>chB c.toNat)=false:=by
 rw [List.all_eq_false]
 exact ⟨b,List.mem_of_getElem? h,by simp [hb]⟩
theorem all_good {l:List UInt8} (h:∀ (j:Nat) b,j < l.length->l[j]?=some b->chB b.toNat=true):(l.all fun c=>chB c.toNat)=true:=by
 rw [List.all_eq_true]
 intro b hb
 obtain ⟨j,hj,rfl⟩:=List.mem_iff_getElem.1 hb
 exact h j _ hj (List.getElem?_eq_getElem hj)
theorem bytes_at {s:ByteArray} {i:Nat} {b:UInt8} (h:s.data.toList[i]?=some b):(bytesOf s)[i]?=some (uA b.toNat):=by
 unfold bytesOf; rw [List.getElem?_map,h]; rfl
theorem b_lt (b:UInt8):b.toNat < 256:=b.toNat_lt
theorem nameC {w:WD} (s:ByteArray):GivesV (EE w) 49 [sA s] (.sc (.bool (nameB s))):=by
 refine GivesV.of gWF (.cons _ _ (.sc _) .nil) 1 ?_
 refine of_49 rfl rfl rfl (by kernel_rfl) ?_
 cases hs:s.data.toList with
 | nil=>
  have e0:s=⟨#[]⟩:=ByteArray.ext (by apply Array.toList_inj.mp; rw [hs])
  subst e0
  (repeat' first|refine vw ?_ ?_<;>intro hq|refine vz ?_|simp -implicitDefEqProofs only [go_sem,sA,ba_list])
  exact ret_bool (by rfl)
 | cons c cs=>
 have e0:s≠⟨#[]⟩:=by rintro rfl; cases hs
 rw [name_all hs]
 by_cases e1:16 < s.size
 ·have e1':(16:Int) < s.size:=by omega
  (repeat' first|refine vw ?_ ?_<;>intro hq|refine vz ?_|simp -implicitDefEqProofs only [go_sem,sA,ba_list,dcf e0,dct e1'])
  exact ret_bool (by rw [dcf (by omega:¬ s.size<=16)]; rfl)
 have e1':¬ (16:Int) < s.size:=by omega
 rw [dct (by omega:s.size<=16),Bool.true_and]
 have hc:aIndexStr (.sc (.string s)) (.sc (.int .i64 (0:Int)))=some (uA c.toNat):=ixs (σ:=empty) (i:=0) (by rw [hs]; rfl)
 simp -implicitDefEqProofs only [go_sem,sA,ba_list,dcf e0,dcf e1',hc]
 refine (letterC c.toNat (b_lt c)).use ?_
 cases h1:letB c.toNat with
 | false=>
  (repeat' first|refine vw ?_ ?_<;>intro hq|refine vz ?_|simp -implicitDefEqProofs only [go_sem])
  exact ret_bool (by rfl)
 | true=>
 rw [Bool.true_and]
 simp -implicitDefEqProofs only [go_sem]
 refine (reservedC).use ?_
 simp -implicitDefEqProofs only [go_sem]
 refine (containsC wordsD words_len s).use ?_
 by_cases h2:s∈wordsL
 ·simp only [dct h2]
  (repeat' first|refine vw ?_ ?_<;>intro hq|refine vz ?_|simp -implicitDefEqProofs only [go_sem])
  exact ret_bool (by rfl)
 simp only [dcf h2]
 (repeat' (first|refine vzf ?_|simp -implicitDefEqProofs only [go_sem]))
 refine vlp (ι:=Nat) (fun i=>[(24,.slice 0 0 s.size),(25,(.sc (.int .i64 (s.size)))),(26,(.sc (.int .i64 (i))))]) (fun i σ=>(i<=s.size/\∀ (j:Nat) b,j < i->s.data.toList[j]?=some b->chB b.toNat=true)/\σ.get 0=some (.cells 1 (bytesOf s))) (fun i=>s.size - i) (fun _=>rfl) 0 ?_ ?_ ?_
 ·exact vsu
 ·exact ⟨⟨Nat.zero_le _,fun j x hj=>by omega⟩,by rw [AStore.get_alloc]; rfl⟩
 rintro i σ ⟨⟨hi,hok⟩,hg⟩
 simp -implicitDefEqProofs only [go_sem]
 (refine vif ?_ ?_<;>intro h3)
 ·obtain ⟨b,hb⟩:∃ b,s.data.toList[i]?=some b:=⟨s.data.toList[i]'(by rw [bytes_len]; omega),by simp⟩
  have hw:=wrapS (i:=i) (by omega)
  have hib:=bytes_at hb
  have hii:(0:Int)<=(i:Int):=by omega
  have hlt:(i:Int) < (s.size:Int):=by omega
  have next:chB b.toNat=true->∃ j,s.size - j < s.size - i/\(j<=s.size/\∀ (j':Nat) b,j' < j->s.data.toList[j']?=some b->chB b.toNat=true)/\j=i+1:=by
   intro hcb
   refine ⟨i+1,vom,⟨vom,?_⟩,rfl⟩
   intro j q hj hq
   rcases Nat.lt_or_ge j i with h'|h'
   ·exact hok j q h' hq
   ·obtain rfl:j=i:=by omega
    rw [hb] at hq; cases hq; exact hcb
  (repeat' first|refine vw ?_ ?_<;>intro hq|refine vz ?_|simp -implicitDefEqProofs only [go_sem,hg,hii,hlt,hib,uA,Int.toNat_natCast,Nat.zero_add])
  refine (letterC b.toNat (b_lt b)).use ?_
  cases h4:letB b.toNat with
  | true=>
   obtain ⟨j,j1,j2,rfl⟩:=next (by simp [chB,h4])
   (repeat' first|refine vw ?_ ?_<;>intro hq|refine vz ?_|simp -implicitDefEqProofs only [go_sem,hw])
   refine ⟨i+1,j1,⟨j2,hg⟩,?_⟩
   exact vsu
  | false=>
   simp -implicitDefEqProofs only [go_sem]
   refine (digitC b.toNat).use ?_
   cases h5:digB b.toNat with
   | true=>
    obtain ⟨j,j1,j2,rfl⟩:=next (by simp [chB,h4,h5])
    (repeat' first|refine vw ?_ ?_<;>intro hq|refine vz ?_|simp -implicitDefEqProofs only [go_sem,hw])
    refine ⟨i+1,j1,⟨j2,hg⟩,?_⟩
    exact vsu
   | false=>
    by_cases h6:b.toNat=95
    ·obtain ⟨j,j1,j2,rfl⟩:=next (by simp [chB,h6])
     have h6':((b.toNat:Nat):Int)=95:=by omega
     (repeat' first|refine vw ?_ ?_<;>intro hq|refine vz ?_|simp -implicitDefEqProofs only [go_sem,uA,hw,dct h6'])
     refine ⟨i+1,j1,⟨j2,hg⟩,?_⟩
     exact vsu
    ·have h6':¬ ((b.toNat:Nat):Int)=95:=by omega
     (repeat' first|refine vw ?_ ?_<;>intro hq|refine vz ?_|simp -implicitDefEqProofs only [go_sem,uA,hw,dcf h6'])
     exact ret_bool (by rw [all_bad hb (by simp [chB,h4,h5,h6])])
 ·obtain rfl:i=s.size:=by omega
  (repeat' first|refine vw ?_ ?_<;>intro hq|refine vz ?_|simp -implicitDefEqProofs only [go_sem])
  exact ret_bool (by rw [all_good (fun j b hj hb=>hok j b (by rw [<-bytes_len]; exact hj) hb)])
def unSeen (seen:List ByteArray) (m:List (ByteArray×AVal)):List (ByteArray×AVal):=m.filter fun p=>!decide (p.1∈seen)
theorem seen_any {seen:List ByteArray} {k:ByteArray}:((seen.map Value.string).any (veq (.string k)))=decide (k∈seen):=by
 rw [Bool.eq_iff_iff,List.any_eq_true,decide_eq_true_eq]
 constructor
 ·rintro ⟨v,hv,h⟩
  obtain ⟨x,hx,rfl⟩:=List.mem_map.1 hv
  simp [veq] at h
  subst h; exact hx
 ·intro h
  exact ⟨.string k,List.mem_map.2 ⟨k,h,rfl⟩,by simp [veq]⟩
theorem unseen_str {seen:List ByteArray}:∀ m:List (ByteArray×AVal),unseen (seen.map Value.string) (strM m)=some (strM (unSeen seen m))
  | []=>rfl
  | p :: m => by
      show (if isPlain (.string p.1) then (match unseen (seen.map Value.string) (strM m) with
        | some l=>some (if (seen.map Value.string).any (veq (.string p.1)) then l else (.sc (.string p.1),p.2)::l)
        | none=>none) else none)=_
      rw [unseen_str m,seen_any]
      simp only [isPlain,if_true]
      unfold unSeen
      rw [List.filter_cons]
      by_cases h:p.1∈seen
      · simp [h]
      · simp [h,strM]
/-- What the step to a next entry gives. -/
def nxS (σ:AStore) (b mb c:Nat) (seen:List ByteArray) (m:List (ByteArray×AVal)):List (AVal×AStore):=
 match unSeen seen m with
 | []=>[(.tuple [.sc (.bool false)],σ)]
 | p::l=>(p::l).map fun q=>(.tuple [.sc (.bool true),.sc (.string q.1),q.2],σ.set b (.miter mb c ((seen++[q.1]).map Value.string)))
theorem nx_str {σ:AStore} {b mb c:Nat} {seen:List ByteArray} {m:List (ByteArray×AVal)}:
  nxMap σ b mb c (seen.map Value.string) (some (.map (strM m) c))=some (nxS σ b mb c seen m):=by
 simp only [nxMap,if_true,unseen_str,nxS]
 cases unSeen seen m with
 | nil=>rfl
 | cons p l=>simp [strM,Function.comp_def,keyV]
theorem nxS_nil {σ:AStore} {b mb c:Nat} {seen:List ByteArray} {m:List (ByteArray×AVal)} (h:unSeen seen m=[]):nxS σ b mb c seen m=[(.tuple [.sc (.bool false)],σ)]:=by
 unfold nxS; rw [h]
theorem nxS_mem {σ:AStore} {b mb c:Nat} {seen:List ByteArray} {m:List (ByteArray×AVal)} (h:unSeen seen m≠[]) {q:AVal×AStore} (hq:q∈nxS σ b mb c seen m):
  ∃ k v,(k,v)∈m/\k ∉ seen/\q=(.tuple [.sc (.bool true),.sc (.string k),v],σ.set b (.miter mb c ((seen++[k]).map Value.string))):=by
 unfold nxS at hq
 split at hq
 ·rename_i h'; exact absurd h' h
 ·rename_i p l hu
  obtain ⟨x,hx,rfl⟩:=List.mem_map.1 hq
  rw [<-hu] at hx
  obtain ⟨h1,h2⟩:=List.mem_filter.1 hx
  exact ⟨x.1,x.2,h1,by simpa using h2,rfl⟩
theorem unSeen_next {seen:List ByteArray} {m:List (ByteArray×AVal)} {k:ByteArray} {v:AVal} (hm:(k,v)∈m) (hk:k ∉ seen):(unSeen (seen++[k]) m).length < (unSeen seen m).length:=by
 unfold unSeen
 have h1:m.filter (fun p=>!decide (p.1∈seen++[k]))=(m.filter fun p=>!decide (p.1∈seen)).filter fun p=>!decide (p.1=k):=by
  rw [List.filter_filter]
  congr 1
  funext p
  rw [Bool.eq_iff_iff]
  simp
  constructor
  ·rintro ⟨a,b⟩; exact ⟨b,a⟩
  ·rintro ⟨a,b⟩; exact ⟨b,a⟩
 rw [h1]
 refine List.length_filter_lt_length_iff_exists.2 ⟨(k,v),List.mem_filter.2 ⟨hm,by simpa using hk⟩,by simp⟩
theorem unSeen_none {seen:List ByteArray} {m:List (ByteArray×AVal)} (h:unSeen seen m=[]) {k:ByteArray} {v:AVal} (hm:(k,v)∈m):k∈seen:=by
 rcases Classical.em (k∈seen) with hk|hk
 ·exact hk
 ·have:(k,v)∈unSeen seen m:=List.mem_filter.2 ⟨hm,by simpa using hk⟩
  rw [h] at this; cases this
theorem findKey_str {k:ByteArray}:∀ (m:List (ByteArray×AVal)),findKey (.string k) (strM m)=(getM m k).map (·.2)
  | []=>rfl
  | p :: m => by
      show (if veq (.string k) (.string p.1) then some p.2 else findKey (.string k) (strM m))=_
      unfold getM
      by_cases h:p.1=k
      · subst h; simp [veq]
      · have:veq (.string k) (.string p.1)=false:=by simp [veq,Ne.symm h]
        rw [this,if_neg h]
        rw [findKey_str m]
        cases getM m k<;>simp
theorem entry_str {σ:AStore} {b mb c:Nat} {seen:List ByteArray} {k:ByteArray} {m:List (ByteArray×AVal)} {j:Nat} {v:AVal} (hg:getM m k=some (j,v)) (h1:σ.get b=some (.miter mb c ((seen++[k]).map Value.string))) (h2:σ.get mb=some (.map (strM m) c)):
  aEntry (.ptr b 0 0) σ=some (.tuple [.sc (.string k),v]):=by
 simp [aEntry,h1,h2,isPlain,findKey_str,hg]
theorem getM_mem:∀ {m:List (ByteArray×AVal)} {k:ByteArray} {v:AVal},(m.map (·.1)).Nodup->(k,v)∈m->∃ j,getM m k=some (j,v)
  | [],k,v,_,h=>by cases h
  | p :: m, k, v, hn, h => by
      rw [List.map_cons,List.nodup_cons] at hn
      unfold getM
      rcases List.mem_cons.1 h with rfl|h
      · exact ⟨0,by simp⟩
      · have hne:p.1≠k:=fun hc=>hn.1 (hc ▸ List.mem_map.2 ⟨(k,v),h,rfl⟩)
        obtain ⟨j,hj⟩:=getM_mem hn.2 h
        exact ⟨j+1,by rw [if_neg hne,hj]; rfl⟩
theorem getM_some:∀ {m:List (ByteArray×AVal)} {k:ByteArray} {j:Nat} {v:AVal},getM m k=some (j,v)->m[j]?=some (k,v)
  | [],k,j,v,h=>by cases h
  | p :: m, k, j, v, h => by
      unfold getM at h
      split at h
      · rename_i he
        cases h; subst he; rfl
      · cases hg:getM m k with
        | none=>rw [hg] at h; cases h
        | some q=>
          rw [hg] at h
          simp only [Option.map_some,Option.some.injEq,Prod.mk.injEq] at h
          obtain ⟨rfl,rfl⟩:=h
          simpa using getM_some hg
theorem getM_none:∀ {m:List (ByteArray×AVal)} {k:ByteArray},getM m k=none ↔ ∀ v,(k,v) ∉ m
  | [],k=>by simp [getM]
  | p :: m, k => by
      unfold getM
      by_cases h:p.1=k
      · simp only [h,if_true,reduceCtorEq,false_iff]
        intro hc
        exact hc p.2 (by rw [<-h]; exact List.mem_cons_self ..)
      · rw [if_neg h]
        simp only [Option.map_eq_none_iff,getM_none (m:=m)]
        constructor
        · intro hh v hm
          rcases List.mem_cons.1 hm with rfl|hm
          · exact h rfl
          · exact hh v hm
        · intro hh v hm
          exact hh v (List.mem_cons_of_mem _ hm)
theorem af_1_0:aFind .string (.string ⟨#[124,124]⟩) [] 0=some none:=by kernel_rfl
theorem af_2_0:aFind .string (.string ⟨#[38,38]⟩) [] 0=some none:=by kernel_rfl
theorem af_3_0:aFind .string (.string ⟨#[60]⟩) [] 0=some none:=by kernel_rfl
theorem af_3_1:aFind .string (.string ⟨#[60,61]⟩) [(.sc (.string ⟨#[60]⟩),(.sc (.int .i64 (10))))] 0=some none:=by kernel_rfl
theorem af_3_2:aFind .string (.string ⟨#[61,61]⟩) [(.sc (.string ⟨#[60]⟩),(.sc (.int .i64 (10)))),(.sc (.string ⟨#[60,61]⟩),(.sc (.int .i64 (11))))] 0=some none:=by kernel_rfl
theorem af_3_3:aFind .string (.string ⟨#[33,61]⟩) [(.sc (.string ⟨#[60]⟩),(.sc (.int .i64 (10)))),(.sc (.string ⟨#[60,61]⟩),(.sc (.int .i64 (11)))),(.sc (.string ⟨#[61,61]⟩),(.sc (.int .i64 (12))))] 0=some none:=by kernel_rfl
theorem af_3_4:aFind .string (.string ⟨#[62,61]⟩) [(.sc (.string ⟨#[60]⟩),(.sc (.int .i64 (10)))),(.sc (.string ⟨#[60,61]⟩),(.sc (.int .i64 (11)))),(.sc (.string ⟨#[61,61]⟩),(.sc (.int .i64 (12)))),(.sc (.string ⟨#[33,61]⟩),(.sc (.int .i64 (13))))] 0=some none:=by kernel_rfl
theorem af_3_5:aFind .string (.string ⟨#[62]⟩) [(.sc (.string ⟨#[60]⟩),(.sc (.int .i64 (10)))),(.sc (.string ⟨#[60,61]⟩),(.sc (.int .i64 (11)))),(.sc (.string ⟨#[61,61]⟩),(.sc (.int .i64 (12)))),(.sc (.string ⟨#[33,61]⟩),(.sc (.int .i64 (13)))),(.sc (.string ⟨#[62,61]⟩),(.sc (.int .i64 (14))))] 0=some none:=by kernel_rfl
theorem af_4_0:aFind .string (.string ⟨#[43]⟩) [] 0=some none:=by kernel_rfl
theorem af_4_1:aFind .string (.string ⟨#[45]⟩) [(.sc (.string ⟨#[43]⟩),(.sc (.int .i64 (5))))] 0=some none:=by kernel_rfl
theorem af_5_0:aFind .string (.string ⟨#[42]⟩) [] 0=some none:=by kernel_rfl
theorem af_5_1:aFind .string (.string ⟨#[47]⟩) [(.sc (.string ⟨#[42]⟩),(.sc (.int .i64 (7))))] 0=some none:=by kernel_rfl
theorem af_5_2:aFind .string (.string ⟨#[37]⟩) [(.sc (.string ⟨#[42]⟩),(.sc (.int .i64 (7)))),(.sc (.string ⟨#[47]⟩),(.sc (.int .i64 (8))))] 0=some none:=by kernel_rfl
theorem ms_str {σ:AStore} {b:Nat} {k:ByteArray} {v:AVal}:aMapSet .string (.map b) (.sc (.string k)) v σ=msAt σ b .string (.string k) v (σ.get b):=aMapSet_map rfl
theorem msAt_map {σ:AStore} {b:Nat} {d:TypeDesc} {k:Value} {v:AVal} {kvs:List (AVal×AVal)} {c:Nat}:msAt σ b d k v (some (.map kvs c))=(aFind d k kvs 0).map fun
  | some (i,_)=>σ.set b (.map (kvs.set i (.sc k,v)) c)
  | none=>σ.set b (.map (kvs++[(.sc k,v)]) (c+1)):=rfl
def rkV:Nat->List (ByteArray×Int)
 | 1=>[(⟨#[124,124]⟩,17)]
 | 2=>[(⟨#[38,38]⟩,16)]
 | 3=>[(⟨#[60]⟩,10),(⟨#[60,61]⟩,11),(⟨#[61,61]⟩,12),(⟨#[33,61]⟩,13),(⟨#[62,61]⟩,14),(⟨#[62]⟩,15)]
 | 4=>[(⟨#[43]⟩,5),(⟨#[45]⟩,6)]
 | 5=>[(⟨#[42]⟩,7),(⟨#[47]⟩,8),(⟨#[37]⟩,9)]
 | _=>[]
def rkM (r:Nat):List (ByteArray×AVal):=(rkV r).map fun p=>(p.1,(.sc (.int .i64 (p.2))))
theorem bA:aBuildA 1 (.agg #[.map none,.map none,.map none,.map none,.map none,.map none]) [(1,.map 1),(2,.map 2),(3,.map 3),(4,.map 4),(5,.map 5)]=some (.agg [.sc (.map none),.map 1,.map 2,.map 3,.map 4,.map 5]):=by kernel_rfl
theorem ranksC {w:WD}:ACalls (EE w) 167 [] empty fun e σ=>e=.ret (.agg [.sc (.map none),.map 1,.map 2,.map 3,.map 4,.map 5])/\σ.next=6/\∀ r,1<=r->r<=5->σ.get r=some (.map (strM (rkM r)) (rkM r).length):=by
 refine of_167 rfl rfl rfl (by kernel_rfl) ?_
 (repeat' first|refine vw ?_ ?_<;>intro hq|refine vz ?_|simp -implicitDefEqProofs only [go_sem,ms_str,msAt_map,af_1_0,af_2_0,af_3_0,af_3_1,af_3_2,af_3_3,af_3_4,af_3_5,af_4_0,af_4_1,af_5_0,af_5_1,af_5_2,Option.map_some,List.nil_append,List.cons_append,List.append_assoc,bA])
 refine ⟨rfl,rfl,?_⟩
 intro r h1 h2
 obtain rfl|rfl|rfl|rfl|rfl:r=1\/r=2\/r=3\/r=4\/r=5:=by omega
 all_goals kernel_rfl
def rankI (k:Int):Int:=if k=17 then 1 else if k=16 then 2 else if 10<=k/\k<=15 then 3 else if k=5\/k=6 then 4 else if 7<=k/\k<=9 then 5 else 0
theorem rk_nodup (r:Nat):((rkM r).map (·.1)).Nodup:=by
 have:((rkV r).map (·.1)).Nodup:=by
  unfold rkV
  split<;>decide
 unfold rkM
 rw [List.map_map]
 exact this
theorem rkV_rank {r:Nat}:∀ p∈rkV r,rankI p.2=(r:Int):=by
 unfold rkV
 split<;>first|decide|(intro p hp; cases hp)
theorem rk_val {r:Nat} {k:ByteArray} {v:AVal} (h:(k,v)∈rkM r):∃ n:Int,v=(.sc (.int .i64 (n)))/\(k,n)∈rkV r:=by
 unfold rkM at h
 obtain ⟨p,hp,he⟩:=List.mem_map.1 h
 cases he
 exact ⟨p.2,rfl,hp⟩
theorem rk_has {k:Int} (h:rankI k≠0):∃ r,1<=r/\r<=5/\∃ s,(s,k)∈rkV r:=by
 have hk:k=5\/k=6\/k=7\/k=8\/k=9\/k=10\/k=11\/k=12\/k=13\/k=14\/k=15\/k=16\/k=17:=by
  unfold rankI at h
  have:5<=k/\k<=17:=by
   split at h
   ·omega
   ·split at h
    ·omega
    ·split at h
     ·omega
     ·split at h
      ·omega
      ·split at h
       ·omega
       ·exact absurd rfl h
  omega
 rcases hk with rfl|rfl|rfl|rfl|rfl|rfl|rfl|rfl|rfl|rfl|rfl|rfl|rfl
 ·exact ⟨4,by decide,by decide,⟨#[43]⟩,by decide⟩
 ·exact ⟨4,by decide,by decide,⟨#[45]⟩,by decide⟩
 ·exact ⟨5,by decide,by decide,⟨#[42]⟩,by decide⟩
 ·exact ⟨5,by decide,by decide,⟨#[47]⟩,by decide⟩
 ·exact ⟨5,by decide,by decide,⟨#[37]⟩,by decide⟩
 ·exact ⟨3,by decide,by decide,⟨#[60]⟩,by decide⟩
 ·exact ⟨3,by decide,by decide,⟨#[60,61]⟩,by decide⟩
 ·exact ⟨3,by decide,by decide,⟨#[61,61]⟩,by decide⟩
 ·exact ⟨3,by decide,by decide,⟨#[33,61]⟩,by decide⟩
 ·exact ⟨3,by decide,by decide,⟨#[62,61]⟩,by decide⟩
 ·exact ⟨3,by decide,by decide,⟨#[62]⟩,by decide⟩
 ·exact ⟨2,by decide,by decide,⟨#[38,38]⟩,by decide⟩
 ·exact ⟨1,by decide,by decide,⟨#[124,124]⟩,by decide⟩
def ranksA:AVal:=.agg [.sc (.map none),.map 1,.map 2,.map 3,.map 4,.map 5]
theorem ranks_at {r:Nat} (h1:1<=r) (h2:r<=5):([AVal.sc (.map none),.map 1,.map 2,.map 3,.map 4,.map 5])[r]?=some (.map r):=by
 obtain rfl|rfl|rfl|rfl|rfl:r=1\/r=2\/r=3\/r=4\/r=5:=by omega
 all_goals rfl
theorem operatorC2 {w:WD} (k:Int):Gives (EE w) 147 [(.sc (.int .i64 (k)))] fun v=>∃ s,v=.tuple [sA s,(.sc (.int .i64 (rankI k)))]/\(rankI k≠0->∃ r,(s,k)∈rkV r):=by
 refine Gives.of gWF (.cons _ _ (.sc _) .nil) 3 ?_
 refine of_147 rfl rfl rfl (by kernel_rfl) ?_
 simp -implicitDefEqProofs only [go_sem]
 refine ranksC.mono ?_
 rintro _ σ ⟨rfl,hn,hm⟩
 simp -implicitDefEqProofs only [go_sem]
 refine vlp (ι:=Nat) (fun r=>[(0,(.sc (.int .i64 (k)))),(8,ranksA),(9,(.sc (.int .i64 (r))))]) (fun r σ=>(r<=6/\∀ r' p,r' < r->p∈rkV r'->p.2≠k)/\∀ r,1<=r->r<=5->σ.get r=some (.map (strM (rkM r)) (rkM r).length)) (fun r=>6 - r) (fun _=>rfl) 0 ?_ ?_ ?_
 ·exact vsu
 ·exact ⟨⟨vom,fun r' p hr=>by omega⟩,hm⟩
 clear hm hn
 rintro r σ ⟨⟨hr,hok⟩,hm⟩
 simp -implicitDefEqProofs only [go_sem]
 (refine vif ?_ ?_<;>intro h2)
 ·have hw:=wrapS (i:=r) (by omega)
  have hr0:(0:Int)<=(r:Int):=by omega
  have hr6:(r:Int) < 6:=by omega
  have hr6':(r:Int) < ((6:Nat):Int):=by omega
  by_cases hz:r=0
  ·subst hz
   (repeat' first|refine vw ?_ ?_<;>intro hq|refine vz ?_|simp -implicitDefEqProofs only [go_sem,ranksA,hr0,hr6,Int.toNat_natCast,hw])
   refine vlp (ι:=Unit) (fun _=>[(0,(.sc (.int .i64 (k)))),(8,ranksA),(9,(.sc (.int .i64 ((0:Nat))))),(14,.ptr σ.next 0 0)]) (fun _ σ'=>σ'.get σ.next=some .mitern/\∀ r,1<=r->r<=5->σ'.get r=some (.map (strM (rkM r)) (rkM r).length)) (fun _=>0) (fun _=>rfl) () ?_ ?_ ?_
   ·exact vsu
   ·refine ⟨by rw [AStore.get_alloc,if_pos rfl],fun r h1 h2=>get_alloc_old (hm r h1 h2)⟩
   rintro _ σ' ⟨g1,g2⟩
   simp -implicitDefEqProofs only [go_sem,g1,nxAt_mitern,vGo_vals]
   rintro p hp
   obtain rfl:=List.mem_singleton.1 hp
   (repeat' first|refine vw ?_ ?_<;>intro hq|refine vz ?_|simp -implicitDefEqProofs only [go_sem,hw])
   refine ⟨1,vom,⟨⟨vom,?_⟩,g2⟩,?_⟩
   ·intro r' p hr' hp
    obtain rfl:r'=0:=by omega
    cases hp
   ·exact vsu
  ·have hat:=ranks_at (r:=r) (by omega) (by omega)
   have hmr:=hm r (by omega) (by omega)
   (repeat' first|refine vw ?_ ?_<;>intro hq|refine vz ?_|simp -implicitDefEqProofs only [go_sem,ranksA,hr0,hr6',Int.toNat_natCast,hat,hmr,Nat.mul_one])
   refine vlp (ι:=List ByteArray) (fun _=>[(0,(.sc (.int .i64 (k)))),(8,ranksA),(9,(.sc (.int .i64 (r)))),(4,(.sc (.int .i64 (r)))),(14,.ptr σ.next 0 0)]) (fun seen σ'=>(∀ p∈rkV r,p.1∈seen->p.2≠k)/\σ'.get σ.next=some (.miter r (rkM r).length (seen.map Value.string))/\∀ r,1<=r->r<=5->σ'.get r=some (.map (strM (rkM r)) (rkM r).length)) (fun seen=>(unSeen seen (rkM r)).length) (fun _=>rfl) [] ?_ ?_ ?_
   ·exact vsu
   ·exact ⟨(fun p _ hp=>by cases hp),(by rw [AStore.get_alloc,if_pos rfl]; rfl),fun r h1 h2=>get_alloc_old (hm r h1 h2)⟩
   have hne:σ.next≠r:=by
    intro hc
    have:=AStore.lt_of_get hmr
    omega
   clear hat
   rintro seen σ' ⟨g0,g1,g2⟩
   have hmr':=g2 r (by omega) (by omega)
   simp -implicitDefEqProofs only [go_sem,g1,hmr',nx_str,vGo_vals]
   by_cases hu:unSeen seen (rkM r)=[]
   ·rw [nxS_nil hu]
    rintro p hp
    obtain rfl:=List.mem_singleton.1 hp
    (repeat' first|refine vw ?_ ?_<;>intro hq|refine vz ?_|simp -implicitDefEqProofs only [go_sem,hw])
    refine ⟨r+1,vom,⟨⟨vom,?_⟩,g2⟩,?_⟩
    ·intro r' p hr' hp
     rcases Nat.lt_or_ge r' r with h'|h'
     ·exact hok r' p h' hp
     ·obtain rfl:r'=r:=by omega
      refine g0 p hp (unSeen_none (v:=(.sc (.int .i64 (p.2)))) hu ?_)
      exact List.mem_map.2 ⟨p,hp,rfl⟩
    ·exact vsu
   ·rintro q hq
    obtain ⟨ky,v,m1,m2,rfl⟩:=nxS_mem hu hq
    obtain ⟨n,rfl,m3⟩:=rk_val m1
    obtain ⟨j,hj⟩:=getM_mem (rk_nodup r) m1
    have hlt:=AStore.lt_of_get g1
    have e1:=entry_str (b:=σ.next) (σ:=σ'.set σ.next (.miter r (rkM r).length ((seen++[ky]).map Value.string))) hj (by rw [AStore.get_set,if_pos ⟨rfl,hlt⟩]) (by rw [AStore.get_set,if_neg (fun hc=>hne hc.1.symm)]; exact hmr')
    by_cases h5:n=k
    ·(repeat' first|refine vw ?_ ?_<;>intro hq|refine vz ?_|simp -implicitDefEqProofs only [go_sem,op_entry,opEn_some,e1,dct h5])
     refine ⟨_,_,rfl,rfl,ky,?_,fun _=>⟨r,h5 ▸ m3⟩⟩
     rw [<-h5,rkV_rank _ m3]; rfl
    ·(repeat' first|refine vw ?_ ?_<;>intro hq|refine vz ?_|simp -implicitDefEqProofs only [go_sem,op_entry,opEn_some,e1,dcf h5])
     refine ⟨seen++[ky],unSeen_next m1 m2,⟨?_,by rw [AStore.get_set,if_pos ⟨rfl,hlt⟩],?_⟩,?_⟩
     ·intro p hp hps
      rcases List.mem_append.1 hps with h'|h'
      ·exact g0 p hp h'
      ·have h':=List.mem_singleton.1 h'
       obtain ⟨j2,hj2⟩:=getM_mem (v:=(.sc (.int .i64 (p.2)))) (rk_nodup r) (List.mem_map.2 ⟨p,hp,rfl⟩)
       rw [h',hj] at hj2
       simp only [Option.some.injEq,Prod.mk.injEq,AVal.sc.injEq,Value.int.injEq,true_and] at hj2
       rw [<-hj2.2]; exact h5
     ·intro r' h1 h2
      rw [AStore.get_set,if_neg]
      ·exact g2 r' h1 h2
      ·rintro ⟨rfl,_⟩
       have:=AStore.lt_of_get (hm _ h1 h2)
       omega
     ·exact vsu
 ·obtain rfl:r=6:=by omega
  (repeat' first|refine vw ?_ ?_<;>intro hq|refine vz ?_|simp -implicitDefEqProofs only [go_sem])
  have:rankI k=0:=by
   rcases Classical.em (rankI k=0) with h|h
   ·exact h
   ·obtain ⟨r,h1,h2,s,hs⟩:=rk_has h
    exact absurd rfl (hok r _ (by omega) hs)
  refine ⟨_,_,rfl,rfl,⟨#[]⟩,?_,fun h=>absurd this h⟩
  rw [this]; rfl
theorem operatorC {w:WD} (k:Int):Gives (EE w) 147 [(.sc (.int .i64 (k)))] fun v=>∃ s,v=.tuple [sA s,(.sc (.int .i64 (rankI k)))]:=fun σ=>(operatorC2 k σ).mono fun e σ' ⟨h1,v,⟨s,h2,_⟩,h3⟩=>⟨h1,v,⟨s,h2⟩,h3⟩
def IsA (n:Nat) (e:AVal):Prop:=∃ cs,e=.agg cs/\cs.length=n
theorem IsA.facts {n:Nat} {e:AVal} (h:IsA n e):(AVal.cells e).length=n/\List.take n (AVal.cells e)=AVal.cells e/\AVal.agg (AVal.cells e)=e:=by
 obtain ⟨cs,rfl,hl⟩:=h
 exact ⟨hl,List.take_of_length_le (by show cs.length<=n; omega),rfl⟩
theorem IsEx.isA {x:Ex} {e:AVal} (h:IsEx x e):IsA 4 e:=by
 cases x with
 | mk k nm i xs=>
  simp only [IsEx] at h
  obtain ⟨S,els,rfl,_⟩:=h
  exact ⟨_,rfl,rfl⟩
theorem IsExs.all {xs:List Ex} {els:List AVal} (h:IsExs xs els) {e:AVal} {j:Nat} (he:els[j]?=some e):∃ x,xs[j]?=some x/\IsEx x e:=by
 have hj:j < xs.length:=by
  rw [<-h.len]
  rcases Nat.lt_or_ge j els.length with h'|h'
  ·exact h'
  ·rw [List.getElem?_eq_none h'] at he; cases he
 obtain ⟨x,hx⟩:∃ x,xs[j]?=some x:=⟨xs[j],by simp [hj]⟩
 obtain ⟨e',h1,h2⟩:=h.at hx
 rw [he] at h1; cases h1
 exact ⟨x,hx,h2⟩
theorem IsExs.isA {xs:List Ex} {els:List AVal} (h:IsExs xs els):∀ e∈els,IsA 4 e:=by
 intro e he
 obtain ⟨j,hj,rfl⟩:=List.mem_iff_getElem.1 he
 obtain ⟨x,_,h2⟩:=h.all (List.getElem?_eq_getElem hj)
 exact h2.isA
theorem indexFEC {w:WD} {L:AVal} {els:List AVal} (h:IsD 4 L els) (hl:els.length<=1152921504606846976) (ha:∀ e∈els,IsA 4 e) (hw0:WFs 0 els) {g:FuncId} (hfn:∀ w:WD,(EE w).fns g=true) (p:Nat->Bool)
  (hF:∀ (w:WD) (j:Nat) e,els[j]?=some e->GivesV (EE w) g [e] (.sc (.bool (p j)))):
  Gives (EE w) 168 [L,.func (.func g) [] []] fun v=>∃ k:Int,v=(.sc (.int .i64 (k)))/\(0<=k ↔ ∃ j,j < els.length/\p j=true):=by
 refine Gives.of gWF (.cons _ _ (h.wf hw0) (.cons _ _ (.func _ _ _ .nil .nil) .nil)) 1 ?_
 refine of_168 rfl rfl rfl (by kernel_rfl) ?_
 simp -implicitDefEqProofs only [go_sem,h.len]
 refine vlp (ι:=Nat) (fun i=>[(0,L),(1,.func (.func g) [] []),(7,(.sc (.int .i64 (els.length)))),(8,(.sc (.int .i64 (i))))]) (fun i σ=>i<=els.length/\∀ (j:Nat),j < i->p j=false) (fun i=>els.length - i) (fun _=>rfl) 0 ?_ ?_ ?_
 ·exact vsu
 ·exact ⟨Nat.zero_le _,fun j hj=>by omega⟩
 rintro i σ ⟨hi,hok⟩
 simp -implicitDefEqProofs only [go_sem]
 (refine vif ?_ ?_<;>intro h2)
 ·obtain ⟨e,he⟩:∃ e,els[i]?=some e:=⟨els[i]'(by omega),by simp⟩
  obtain ⟨c1,c2,c3⟩:=(ha e (List.mem_of_getElem? he)).facts
  have hw:=wrapS (i:=i) (by omega)
  (repeat' first|refine vw ?_ ?_<;>intro hq|refine vz ?_|simp -implicitDefEqProofs only [go_sem,h.idx he,c1,c2,c3,hfn])
  refine (hF _ i e he).use ?_
  cases h3:p i with
  | true=>
   (repeat' first|refine vw ?_ ?_<;>intro hq|refine vz ?_|simp -implicitDefEqProofs only [go_sem])
   exact ⟨_,_,rfl,rfl,_,rfl,fun _=>⟨i,vom,h3⟩,fun _=>by omega⟩
  | false=>
   (repeat' first|refine vw ?_ ?_<;>intro hq|refine vz ?_|simp -implicitDefEqProofs only [go_sem,hw])
   refine ⟨i+1,vom,⟨vom,?_⟩,?_⟩
   ·intro j hj
    rcases Nat.lt_or_ge j i with h'|h'
    ·exact hok j h'
    ·obtain rfl:j=i:=by omega
     exact h3
   ·exact vsu
 ·obtain rfl:i=els.length:=by omega
  (repeat' first|refine vw ?_ ?_<;>intro hq|refine vz ?_|simp -implicitDefEqProofs only [go_sem])
  refine ⟨_,_,rfl,rfl,_,rfl,fun hc=>by omega,?_⟩
  rintro ⟨j,h1,h2⟩
  rw [hok j h1] at h2; cases h2
theorem containsFEC {w:WD} {L:AVal} {els:List AVal} (h:IsD 4 L els) (hl:els.length<=1152921504606846976) (ha:∀ e∈els,IsA 4 e) (hw0:WFs 0 els) {g:FuncId} (hfn:∀ w:WD,(EE w).fns g=true) (p:Nat->Bool)
  (hF:∀ (w:WD) (j:Nat) e,els[j]?=some e->GivesV (EE w) g [e] (.sc (.bool (p j)))):
  GivesV (EE w) 148 [L,.func (.func g) [] []] (.sc (.bool (decide (∃ j,j < els.length/\p j=true)))):=by
 refine GivesV.of gWF (.cons _ _ (h.wf hw0) (.cons _ _ (.func _ _ _ .nil .nil) .nil)) 1 ?_
 refine of_148 rfl rfl rfl (by kernel_rfl) ?_
 simp -implicitDefEqProofs only [go_sem]
 refine (indexFEC h hl ha hw0 hfn p hF).use ?_
 rintro _ ⟨k,rfl,hk⟩
 (repeat' first|refine vw ?_ ?_<;>intro hq|refine vz ?_|simp -implicitDefEqProofs only [go_sem])
 exact ret_bool (decide_eq_decide.mpr hk)
theorem nm_empty {s:ByteArray}:decide (s=⟨#[]⟩)=decide (s.size=0):=by
 apply decide_eq_decide.mpr
 constructor
 ·rintro rfl; rfl
 ·intro h
  apply ByteArray.ext
  apply Array.eq_empty_of_size_eq_zero
  exact h
theorem ar_op {k:Int} {n:Nat} (h:rankI k≠0):arityB k n=decide (n=2):=by
 have:5<=k/\k<=17:=by
  unfold rankI at h
  split at h
  ·omega
  ·split at h
   ·omega
   ·split at h
    ·omega
    ·split at h
     ·omega
     ·split at h
      ·omega
      ·exact absurd rfl h
 unfold arityB
 rw [if_neg (by omega),if_neg (by omega),if_pos this]
theorem ar_no {k:Int} {n:Nat} (h:rankI k=0) (h1:k≠1) (h2:k≠2) (h3:k≠3) (h4:k≠4) (h5:k≠18) (h6:k≠19):arityB k n=false:=by
 unfold arityB
 rw [if_neg (by omega),if_neg (by omega),if_neg,if_neg h5,dcf h6]
 rintro ⟨a,b⟩
 unfold rankI at h
 split at h
 ·cases h
 ·split at h
  ·cases h
  ·split at h
   ·cases h
   ·split at h
    ·cases h
    ·split at h
     ·cases h
     ·omega
theorem formedBs_at {l:List Ex}:formedBs nameB l=!decide (∃ j,j < l.length/\(match l[j]? with|some x=>!formedB nameB x|none=>false)=true):=by
 rw [formedBs_all,Bool.eq_iff_iff,List.all_eq_true,Bool.not_eq_true',decide_eq_false_iff_not]
 constructor
 ·rintro h ⟨j,hj,hb⟩
  rw [List.getElem?_eq_getElem hj] at hb
  simp [h _ (List.getElem_mem hj)] at hb
 ·intro h x hx
  obtain ⟨j,hj,rfl⟩:=List.mem_iff_getElem.1 hx
  cases hb:formedB nameB l[j] with
  | true=>rfl
  | false=>exact absurd ⟨j,hj,by rw [List.getElem?_eq_getElem hj]; simp [hb]⟩ h
def namedB (k:Int) (nm:ByteArray):Bool:=if k=2\/k=19 then nameB nm else decide (nm.size=0)
theorem formed1C {w:WD} {x:Ex} {v:AVal} (h:IsEx x v) (hf:∀ w:WD,GivesV (EE w) 126 [v] (.sc (.bool (formedB nameB x)))):GivesV (EE w) 149 [v] (.sc (.bool (!formedB nameB x))):=by
 refine GivesV.of gWF (.cons _ _ h.wf .nil) 1 ?_
 obtain ⟨c1,c2,c3⟩:=h.isA.facts
 obtain ⟨cs,rfl,hl⟩:=h.isA
 simp only [cells_agg] at c1 c2
 refine of_149 rfl rfl rfl (by kernel_rfl) ?_
 simp -implicitDefEqProofs only [go_sem,c1,c2]
 refine (hf _).use ?_
 (repeat' first|refine vw ?_ ?_<;>intro hq|refine vz ?_|simp -implicitDefEqProofs only [go_sem])
 exact ret_bool rfl
theorem formedStep {k i:Int} {nm:ByteArray} {l:List Ex} {w:WD} {v:AVal} (h:IsEx (.mk k nm i l) v) (rec:∀ y∈l,∀ (w:WD) (v:AVal),IsEx y v->GivesV (EE w) 126 [v] (.sc (.bool (formedB nameB y)))):GivesV (EE w) 126 [v] (.sc (.bool (formedB nameB (.mk k nm i l)))):=by
  have hwf:=h.wf
  simp only [IsEx] at h
  obtain ⟨S,els,rfl,hS,hs,hk,hi,hn,hl⟩:=h
  have hlen:=hs.len
  have ih:∀ (w:WD) (j:Nat) e,els[j]?=some e->GivesV (EE w) 149 [e] (.sc (.bool (match l[j]? with|some x=>!formedB nameB x|none=>false))):=by
   intro w j e he
   obtain ⟨x,hx,hxe⟩:=hs.all he
   rw [hx]
   exact formed1C hxe fun w=>rec x (List.mem_of_getElem? hx) w e hxe
  have hfF:=fun w:WD=>containsFEC (w:=w) hS (by omega) hs.isA hs.wf (g:=149) (fun w=>by kernel_rfl) (fun j=>match l[j]? with|some x=>!formedB nameB x|none=>false) ih
  have kS:=hS.fit
  have cS:=hS.cells
  have iS:=hS.isCell
  refine GivesV.of gWF (.cons _ _ hwf .nil) 1 ?_
  have hform:formedB nameB (.mk k nm i l)=((arityB k l.length && namedB k nm) && ((decide (i=0) || decide (k=1)) && (decide (-2147483648<=i) && decide (i<=2147483648))) && formedBs nameB l):=rfl
  rw [hform]
  refine of_126 rfl rfl rfl (by kernel_rfl) ?_
  simp -implicitDefEqProofs only [go_sem,kS,cS,iS]
  refine Z_mid (fun e σ=>∃ m:Int,look? e 1=some (.ptr 0 0 0)/\look? e 3=some (.sc (.int .i64 (m)))/\σ.get 0=some (.cells 4 [.agg [(.sc (.int .i64 (k))),.sc (.string nm),(.sc (.int .i64 (i))),S]])/\decide ((l.length:Int)=m)=arityB k l.length) ?_ ?_
  ·have hg:∀ y,(empty.alloc y).get 0=some y:=fun y=>by rw [AStore.get_alloc]; rfl
   by_cases h1:k=1
   ·subst h1
    (repeat' first|refine vw ?_ ?_<;>intro hq|refine vz ?_|simp -implicitDefEqProofs only [go_sem])
    refine ⟨0,rfl,?_⟩
    unfold arityB; rw [if_pos (by omega)]; exact decide_eq_decide.mpr (by omega)
   by_cases h2:k=2
   ·subst h2
    (repeat' first|refine vw ?_ ?_<;>intro hq|refine vz ?_|simp -implicitDefEqProofs only [go_sem])
    refine ⟨0,rfl,?_⟩
    unfold arityB; rw [if_pos (by omega)]; exact decide_eq_decide.mpr (by omega)
   by_cases h3:k=3
   ·subst h3
    (repeat' first|refine vw ?_ ?_<;>intro hq|refine vz ?_|simp -implicitDefEqProofs only [go_sem])
    refine ⟨1,rfl,?_⟩
    unfold arityB; rw [if_neg (by omega),if_pos (by omega)]; exact decide_eq_decide.mpr (by omega)
   by_cases h4:k=4
   ·subst h4
    (repeat' first|refine vw ?_ ?_<;>intro hq|refine vz ?_|simp -implicitDefEqProofs only [go_sem])
    refine ⟨1,rfl,?_⟩
    unfold arityB; rw [if_neg (by omega),if_pos (by omega)]; exact decide_eq_decide.mpr (by omega)
   by_cases h5:k=18
   ·subst h5
    (repeat' first|refine vw ?_ ?_<;>intro hq|refine vz ?_|simp -implicitDefEqProofs only [go_sem])
    refine ⟨3,rfl,?_⟩
    unfold arityB; rw [if_neg (by omega),if_neg (by omega),if_neg (by omega),if_pos (by omega)]; exact decide_eq_decide.mpr (by omega)
   by_cases h6:k=19
   ·subst h6
    (repeat' first|refine vw ?_ ?_<;>intro hq|refine vz ?_|simp -implicitDefEqProofs only [go_sem,hS.len])
    refine ⟨els.length,rfl,?_⟩
    rw [hlen]
    unfold arityB; rw [if_neg (by omega),if_neg (by omega),if_neg (by omega),if_neg (by omega)]; exact decide_eq_decide.mpr (by omega)
   (repeat' first|refine vw ?_ ?_<;>intro hq|refine vz ?_|simp -implicitDefEqProofs only [go_sem,dcf h1,dcf h2,dcf h3,dcf h4,dcf h5,dcf h6])
   refine (operatorC k).use ?_
   rintro _ ⟨s,rfl⟩
   by_cases h7:rankI k=0
   ·(repeat' first|refine vw ?_ ?_<;>intro hq|refine vz ?_|simp -implicitDefEqProofs only [go_sem,dct h7])
    exact ret_bool (by rw [ar_no h7 h1 h2 h3 h4 h5 h6]; rfl)
   ·(repeat' first|refine vw ?_ ?_<;>intro hq|refine vz ?_|simp -implicitDefEqProofs only [go_sem,dcf h7])
    exact ⟨2,rfl,by rw [ar_op h7]; exact decide_eq_decide.mpr (by omega)⟩
  ·rintro e σ ⟨m,t1,t3,hg,har⟩
   rw [<-har]
   have e2:decide (nm=⟨#[]⟩)=decide (nm.size=0):=nm_empty
   have hL:aLen (.slice 0) S σ=some (.sc (.int .i64 l.length)):=by rw [<-hlen]; exact hS.len
   have hfin:formedBs nameB l=!decide (∃ j,j < els.length/\(match l[j]? with|some x=>!formedB nameB x|none=>false)=true):=by rw [formedBs_at,hlen]
   rw [hfin]
   clear ih hform hwf har hfin
   generalize hC:decide (∃ j,j < els.length/\(match l[j]? with|some x=>!formedB nameB x|none=>false)=true)=bb at*
   by_cases h3:k=2
   ·have hnb:namedB k nm=nameB nm:=if_pos (by omega)
    rw [hnb]
    simp -implicitDefEqProofs only [go_sem,t1,t3,hg,ba_list,dct h3]
    refine vzt ?_
    simp -implicitDefEqProofs only [go_sem,t1,t3,hg]
    refine (nameC nm).use ?_
    generalize nameB nm=nb
    cases nb with
    | false=>
     (repeat' first|refine vw ?_ ?_<;>intro hq|refine vz ?_|simp -implicitDefEqProofs only [go_sem,t1,t3,hg])
     exact ret_bool (by simp)
    | true=>
     (repeat' first|refine vw ?_ ?_<;>intro hq|refine vz ?_|simp -implicitDefEqProofs only [go_sem,t1,t3,hg,hL])
     all_goals first|(refine (hfF _).use ?_; (repeat' first|refine vw ?_ ?_<;>intro hq|refine vz ?_|simp -implicitDefEqProofs only [go_sem]); exact ret_bool (by simp [*]))|exact ret_bool (by simp [*])
   by_cases h4:k=19
   ·have hnb:namedB k nm=nameB nm:=if_pos (by omega)
    rw [hnb]
    simp -implicitDefEqProofs only [go_sem,t1,t3,hg,ba_list,dcf h3,dct h4]
    refine vzt ?_
    simp -implicitDefEqProofs only [go_sem,t1,t3,hg]
    refine (nameC nm).use ?_
    generalize nameB nm=nb
    cases nb with
    | false=>
     (repeat' first|refine vw ?_ ?_<;>intro hq|refine vz ?_|simp -implicitDefEqProofs only [go_sem,t1,t3,hg])
     exact ret_bool (by simp)
    | true=>
     (repeat' first|refine vw ?_ ?_<;>intro hq|refine vz ?_|simp -implicitDefEqProofs only [go_sem,t1,t3,hg,hL])
     all_goals first|(refine (hfF _).use ?_; (repeat' first|refine vw ?_ ?_<;>intro hq|refine vz ?_|simp -implicitDefEqProofs only [go_sem]); exact ret_bool (by simp [*]))|exact ret_bool (by simp [*])
   ·have hnb:namedB k nm=decide (nm.size=0):=if_neg (by omega)
    rw [hnb]
    simp -implicitDefEqProofs only [go_sem,t1,t3,hg,ba_list,dcf h3,dcf h4,e2]
    refine vzf ?_
    generalize decide (nm.size=0)=nb
    cases nb with
    | false=>
     (repeat' first|refine vw ?_ ?_<;>intro hq|refine vz ?_|simp -implicitDefEqProofs only [go_sem,t1,t3,hg])
     exact ret_bool (by simp)
    | true=>
     (repeat' first|refine vw ?_ ?_<;>intro hq|refine vz ?_|simp -implicitDefEqProofs only [go_sem,t1,t3,hg,hL])
     all_goals first|(refine (hfF _).use ?_; (repeat' first|refine vw ?_ ?_<;>intro hq|refine vz ?_|simp -implicitDefEqProofs only [go_sem]); exact ret_bool (by simp [*]))|exact ret_bool (by simp [*])
theorem formedC:∀ {x:Ex} {w:WD} {v:AVal},IsEx x v->GivesV (EE w) 126 [v] (.sc (.bool (formedB nameB x)))
 | .mk _ _ _ _,_,_,h=>formedStep h fun y hy _ _ h'=>formedC (x:=y) h'
termination_by x=>sizeOf x
decreasing_by have:=List.sizeOf_lt_of_mem hy; simp only [Ex.mk.sizeOf_spec]; omega
/-- One block is written; other old ones are as they were. -/
def Upd (σ σ':AStore) (b:Nat) (x:ABlk):Prop:=σ.next<=σ'.next/\σ'.get b=some x/\∀ b' y,b'≠b->σ.get b'=some y->σ'.get b'=some y
def mA (n d:Nat) (w:Bool):AVal:=.agg [(.sc (.int .i64 (n))),(.sc (.int .i64 (d))),(.sc (.bool (w)))]
theorem mx_nat {a b:Nat}:(if (b:Int) > (a:Int) then (b:Int) else (a:Int))=((max a b:Nat):Int):=by
 split<;>omega
theorem oneOf_nil:oneOf []=.tuple []:=rfl
theorem mInC {w:WD} {σ:AStore} {b:Nat} {n1 d1 n2 d2:Nat} {w1 w2:Bool} (hg:σ.get b=some (.cells 3 [mA n1 d1 w1])) (h1:n1<=1152921504606846976) (h2:n2<=1152921504606846976) (h3:d1<=1152921504606846976) (h4:d2<=1152921504606846976):
  ACalls (EE w) 150 [.ptr b 0 0,mA n2 d2 w2] σ fun e σ'=>e=.ret (.tuple [])/\Upd σ σ' b (.cells 3 [mA (n1+n2) (max d1 (1+d2)) (w1 || w2)]):=by
 have hlt:=AStore.lt_of_get hg
 have hne:σ.next≠b:=by omega
 have hw1:IntKind.i64.wrap ((n1:Int)+(n2:Int))=((n1+n2:Nat):Int):=by rw [wrap64 (by omega) (by omega)]; omega
 have hw2:IntKind.i64.wrap (1+(d2:Int))=((1+d2:Nat):Int):=by rw [wrap64 (by omega) (by omega)]; omega
 have hb:b≠σ.next:=by omega
 have hlt':b < σ.next+1:=by omega
 refine of_150 rfl rfl rfl (by kernel_rfl) ?_
 simp -implicitDefEqProofs only [go_sem,mA]
 ((try (refine Z_seq ?_; (try simp -implicitDefEqProofs only [go_sem]))); refine Z_draw (by kernel_rfl) (0::1::2::3::4::5::6::7::8::9::10::11::12::13::14::15::16::17::18::19::20::21::22::23::24::25::26::27::28::29::30::31::32::33::34::[]) ((34,17179869183)::(33,8589934591)::(32,4294967295)::(31,2088763387)::(30,1015021563)::(29,478150651)::(28,209469433)::(27,71057401)::(26,3948537)::(25,33292288)::(24,16515072)::(23,8126464)::(22,3932160)::(21,1835008)::(20,786432)::(19,262144)::(18,0)::(17,130048)::(16,49152)::(15,16384)::(14,0)::(13,7168)::(12,3072)::(11,1024)::(10,0)::(9,504)::(8,128)::(7,0)::(6,56)::(5,24)::(4,8)::(3,0)::(2,0)::(1,0)::(0,0)::[]) (by kernel_rfl) (by kernel_rfl) ?_)
 simp -implicitDefEqProofs only [go_sem,hg,mA,hw1,hw2,hb,hlt',if_neg hb]
 have hmx:=mx_nat (a:=d1) (b:=1+d2)
 cases w1 with
 | true=>
  simp -implicitDefEqProofs only [go_sem,hg,mA,hw1,hw2,hb,hlt',hne,hmx,oneOf_nil,Bool.true_or]
  refine ⟨by simp only [set_next,alloc_next]; omega,?_,?_⟩
  ·rw [AStore.get_set,if_pos ⟨rfl,by simp only [set_next,alloc_next]; omega⟩]
  ·intro b' y hb' hy
   have hlt2:=AStore.lt_of_get hy
   rw [AStore.get_set,if_neg (fun hc=>hb' hc.1),AStore.get_set,if_neg (fun hc=>hb' hc.1),AStore.get_set,if_neg (fun hc=>hb' hc.1),AStore.get_alloc,if_neg (by omega)]
   exact hy
 | false=>
  simp -implicitDefEqProofs only [go_sem,hg,mA,hw1,hw2,hb,hlt',hne,hmx,oneOf_nil,Bool.false_or]
  refine ⟨by simp only [set_next,alloc_next]; omega,?_,?_⟩
  ·rw [AStore.get_set,if_pos ⟨rfl,by simp only [set_next,alloc_next]; omega⟩]
  ·intro b' y hb' hy
   have hlt2:=AStore.lt_of_get hy
   rw [AStore.get_set,if_neg (fun hc=>hb' hc.1),AStore.get_set,if_neg (fun hc=>hb' hc.1),AStore.get_set,if_neg (fun hc=>hb' hc.1),AStore.get_alloc,if_neg (by omega)]
   exact hy
theorem nodesEs_take:∀ {l:List Ex} {i:Nat} {x:Ex},l[i]?=some x->nodesEs (l.take (i+1))=nodesEs (l.take i)+nodesE x
  | [],i,x,h=>by simp at h
  | y::l,0,x,h=>by simp at h; subst h; simp [nodesEs]
  | y :: l, i + 1, x, h => by
      have:=nodesEs_take (l:=l) (i:=i) (x:=x) (by simpa using h)
      simp only [List.take_succ_cons,nodesEs] at this ⊢
      omega
theorem depthEs_take:∀ {l:List Ex} {i:Nat} {x:Ex},l[i]?=some x->depthEs (l.take (i+1))=max (depthEs (l.take i)) (depthE x)
  | [],i,x,h=>by simp at h
  | y::l,0,x,h=>by simp at h; subst h; simp [depthEs]
  | y :: l, i + 1, x, h => by
      have:=depthEs_take (l:=l) (i:=i) (x:=x) (by simpa using h)
      simp only [List.take_succ_cons,depthEs] at this ⊢
      omega
theorem fewEs_take:∀ {l:List Ex} {i:Nat} {x:Ex},l[i]?=some x->fewEs (l.take (i+1))=(fewEs (l.take i) && fewE x)
  | [],i,x,h=>by simp at h
  | y::l,0,x,h=>by simp at h; subst h; simp [fewEs]
  | y :: l, i + 1, x, h => by
      have:=fewEs_take (l:=l) (i:=i) (x:=x) (by simpa using h)
      simp only [List.take_succ_cons,fewEs,Bool.and_assoc] at this ⊢
      rw [this]
theorem nodesEs_le:∀ {l:List Ex} {i:Nat},nodesEs (l.take i)<=nodesEs l
  | [],i=>by simp
  | y::l,0=>by simp [nodesEs]
  | y :: l, i + 1 => by
      have:=nodesEs_le (l:=l) (i:=i)
      simp only [List.take_succ_cons,nodesEs] at this ⊢
      omega
theorem depthEs_le:∀ {l:List Ex} {i:Nat},depthEs (l.take i)<=depthEs l
  | [],i=>by simp
  | y::l,0=>by simp [depthEs]
  | y :: l, i + 1 => by
      have:=depthEs_le (l:=l) (i:=i)
      simp only [List.take_succ_cons,depthEs] at this ⊢
      omega
mutual
theorem depth_nodesE:∀ (x:Ex),depthE x<=nodesE x
 | .mk _ _ _ l=>by have:=depth_nodesEs l; simp only [depthE,nodesE]; omega
theorem depth_nodesEs:∀ (l:List Ex),depthEs l<=nodesEs l
 | []=>Nat.le_refl _
 | x::l=>by have:=depth_nodesE x; have:=depth_nodesEs l; simp only [depthEs,nodesEs]; omega
end
theorem nodesE_at {l:List Ex} {i:Nat} {x:Ex} (h:l[i]?=some x):nodesE x<=nodesEs l:=by
 have h1:=nodesEs_take h
 have h2:=nodesEs_le (l:=l) (i:=i+1)
 omega
theorem depthE_at {l:List Ex} {i:Nat} {x:Ex} (h:l[i]?=some x):depthE x<=depthEs l:=by
 have h1:=depthEs_take h
 have h2:=depthEs_le (l:=l) (i:=i+1)
 omega
theorem smallC {w:WD} {n d:Nat} {b:Bool}:GivesV (EE w) 128 [mA n d b] (.sc (.bool (decide (n<=400) && decide (d<=30) && !b))):=by
 refine GivesV.of gWF (.cons _ _ (.agg _ (.cons _ _ (.sc _) (.cons _ _ (.sc _) (.cons _ _ (.sc _) .nil)))) .nil) 1 ?_
 refine of_128 rfl rfl rfl (by kernel_rfl) ?_
 (repeat' first|refine vw ?_ ?_<;>intro hq|refine vz ?_|simp -implicitDefEqProofs only [go_sem,mA])
 all_goals (refine ret_bool ?_; first|(rw [dct (by omega:n<=400),dct (by omega:d<=30)]; rfl)|(rw [dcf (by omega:¬ d<=30)]; simp; done)|(rw [dcf (by omega:¬ n<=400)]; simp; done))
theorem IsEx.cellsOk {x:Ex} {e:AVal} (h:IsEx x e):(AVal.cells e).all AVal.isCell=true:=by
 cases x with
 | mk k nm i l=>
  simp only [IsEx] at h
  obtain ⟨S,els,rfl,hS,_⟩:=h
  show ([(.sc (.int .i64 (k))),AVal.sc (.string nm),(.sc (.int .i64 (i))),S].all AVal.isCell)=true
  simp only [List.all_cons,List.all_nil,hS.isCell,isCell_int,isCell_str,Bool.and_self]
theorem IsA.splice {e:AVal} (h:IsA 4 e) {a b c d:AVal}:spliceL [a,b,c,d] 0 (AVal.cells e)=AVal.cells e:=by
 obtain ⟨cs,rfl,hl⟩:=h
 match cs,hl with
 | [p,q,r,s],_=>rfl
theorem IsEx.splice {x:Ex} {e:AVal} (h:IsEx x e) {a b c d:AVal}:spliceL [a,b,c,d] 0 (AVal.cells e)=AVal.cells e:=h.isA.splice
theorem expSizeC:∀ {x:Ex} {w:WD} {v:AVal},IsEx x v->nodesE x<=1099511627776->GivesV (EE w) 151 [v] (mA (nodesE x) (depthE x) (!fewE x))
 | .mk k nm i l,w,v,h,hb=>by
  have hwf:=h.wf
  simp only [IsEx] at h
  obtain ⟨S,els,rfl,hS,hs,hk,hi,hn,hl⟩:=h
  have hlen:=hs.len
  have hbs:nodesEs l<=1099511627776:=by simp only [nodesE] at hb; omega
  have hdn:=depth_nodesEs l
  have ih:∀ (w:WD) (j:Nat) e x,els[j]?=some e->l[j]?=some x->GivesV (EE w) 151 [e] (mA (nodesE x) (depthE x) (!fewE x)):=by
   intro w j e x he hx
   obtain ⟨x',hx',hxe⟩:=hs.all he
   rw [hx] at hx'; cases hx'
   have hdec:=List.sizeOf_lt_of_mem (List.mem_of_getElem? hx)
   exact expSizeC hxe (by have:=nodesE_at hx; omega)
  have kS:=hS.fit
  have cS:=hS.cells
  have iS:=hS.isCell
  refine GivesV.of gWF (.cons _ _ hwf .nil) 2 ?_
  refine of_151 rfl rfl rfl (by kernel_rfl) ?_
  have hL:∀ σ:AStore,aLen (.slice 0) S σ=some (.sc (.int .i64 l.length)):=fun σ=>by rw [<-hlen]; exact hS.len
  have hd:decide ((4:Int) < (l.length:Int))=!decide (l.length<=4):=by (rw [Bool.eq_iff_iff]; simp only [Bool.or_eq_true,Bool.and_eq_true,Bool.not_eq_true',decide_eq_true_eq,decide_eq_false_iff_not,Bool.true_eq_false,Bool.false_eq_true,iff_true,true_iff,iff_false,false_iff]; omega)
  simp -implicitDefEqProofs only [go_sem,kS,cS,iS,hL,hd]
  refine vlp (ι:=Nat) (fun i=>[(1,.ptr 0 0 0),(2,.ptr 1 0 0),(3,.ptr 2 0 0),(12,S),(13,(.sc (.int .i64 (l.length)))),(14,(.sc (.int .i64 (i))))]) (fun i σ=>i<=l.length/\3<=σ.next/\σ.get 2=some (.cells 3 [mA (1+nodesEs (l.take i)) (1+depthEs (l.take i)) (!decide (l.length<=4) || !fewEs (l.take i))])/\∃ n d b,σ.get 1=some (.cells 3 [mA n d b])) (fun i=>l.length - i) (fun _=>rfl) 0 ?_ ?_ ?_
  ·exact vsu
  ·refine ⟨Nat.zero_le _,by simp only [set_next,alloc_next,empty_next]; omega,?_,0,0,false,?_⟩
   ·rw [AStore.get_set,if_pos ⟨rfl,by simp only [alloc_next,empty_next]; omega⟩,List.take_zero]
    simp only [nodesEs,depthEs,fewEs,mA,Bool.not_true,Bool.or_false]; rfl
   ·rw [AStore.get_set,if_neg (by omega),AStore.get_alloc,if_neg (by simp only [alloc_next,empty_next]; omega),AStore.get_alloc]
    rfl
  rintro i σ ⟨hi2,h3,hg2,n0,d0,b0,hg1⟩
  simp -implicitDefEqProofs only [go_sem]
  (refine vif ?_ ?_<;>intro h2)
  ·obtain ⟨x,hx⟩:∃ x,l[i]?=some x:=⟨l[i]'(by omega),by simp⟩
   obtain ⟨e,he,hxe⟩:=hs.at hx
   obtain ⟨c1,c2,c3⟩:=hxe.isA.facts
   have cc:=hxe.cellsOk
   have hsp:=fun a b c d=>hxe.splice (a:=a) (b:=b) (c:=c) (d:=d)
   have hw:=wrapS (i:=i) (by omega)
   (repeat' first|refine vw ?_ ?_<;>intro hq|refine vz ?_|simp -implicitDefEqProofs only [go_sem,hS.idx he,c1,c2,c3,cc,hsp])
   refine (ih _ i e x he hx).use ?_
   have hg2':∀ y z,((σ.alloc y).set σ.next z).get 2=some (.cells 3 [mA (1+nodesEs (l.take i)) (1+depthEs (l.take i)) (!decide (l.length<=4) || !fewEs (l.take i))]):=by
    intro y z
    rw [AStore.get_set,if_neg (by omega)]
    exact get_alloc_old hg2
   have hg1':∀ y z,((σ.alloc y).set σ.next z).get 1=some (.cells 3 [mA n0 d0 b0]):=by
    intro y z
    rw [AStore.get_set,if_neg (by omega)]
    exact get_alloc_old hg1
   have hn1:=nodesE_at hx
   have hd1:=depthE_at hx
   have hn2:=nodesEs_le (l:=l) (i:=i)
   have hd2:=depthEs_le (l:=l) (i:=i)
   simp -implicitDefEqProofs only [go_sem]
   refine (mInC (hg2' _ _) (by omega) (by omega) (by omega) (by omega)).mono ?_
   rintro _ σ' ⟨rfl,u1,u2,u3⟩
   (repeat' first|refine vw ?_ ?_<;>intro hq|refine vz ?_|simp -implicitDefEqProofs only [go_sem,hw])
   refine ⟨i+1,vom,⟨vom,?_,?_,n0,d0,b0,u3 1 _ (by omega) (hg1' _ _)⟩,?_⟩
   ·simp only [set_next,alloc_next] at u1; omega
   ·rw [u2,nodesEs_take hx,depthEs_take hx,fewEs_take hx]
    have e1:1+nodesEs (l.take i)+nodesE x=1+(nodesEs (l.take i)+nodesE x):=by omega
    have e2:max (1+depthEs (l.take i)) (1+depthE x)=1+max (depthEs (l.take i)) (depthE x):=by omega
    rw [e1,e2]
    cases decide (l.length<=4)<;>cases fewEs (l.take i)<;>cases fewE x<;>rfl
   ·exact vsu
  ·obtain rfl:i=l.length:=by omega
   rw [List.take_length] at hg2
   have hlt1:=AStore.lt_of_get hg1
   (repeat' first|refine vw ?_ ?_<;>intro hq|refine vz ?_|simp -implicitDefEqProofs only [go_sem,hg2,hg1,mA,hlt1])
   refine ⟨_,rfl,?_⟩
   have e3:(!decide (l.length<=4) || !fewEs l)=!fewE (.mk k nm i l):=by simp only [fewE,Bool.not_and]
   simp only [nodesE,depthE,<-e3]
   rfl
termination_by x=>sizeOf x
decreasing_by simp only [Ex.mk.sizeOf_spec]; omega
end Abs
end
