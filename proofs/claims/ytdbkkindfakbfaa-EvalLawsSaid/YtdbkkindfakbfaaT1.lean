/-
  Functions of the program walked: each is shown to compute a plain function (T1).
-/
import Derived.Test.YtdbkkindfakbfaaTF
noncomputable section
namespace Abs
set_option linter.unusedSimpArgs false
set_option linter.unusedVariables false
set_option maxRecDepth 100000
set_option maxHeartbeats 16000000
open Go Go.Proofs
def unSeen (seen:List ByteArray) (m:List (ByteArray×AVal)):List (ByteArray×AVal):=m.filter fun p=>!decide (p.1∈seen)
theorem seen_any {seen:List ByteArray} {k:ByteArray}:((seen.map Value.string).any (veq (.string k)))=decide (k∈seen):=by
 rw [Bool.eq_iff_iff,List.any_eq_true,decide_eq_true_eq]
 constructor
 ·rintro ⟨v,hv,h⟩
  obtain ⟨x,hx,rfl⟩:=List.mem_map.1 hv
  simp [veq] at h
  subst h; exact hx
 ·intro h
  exact ⟨.string k,List.mem_map.2 ⟨k,h,rfl⟩,by simp [veq]⟩
theorem unseen_str {seen:List ByteArray}:∀ m:List (ByteArray×AVal),unseen (seen.map Value.string) (strM m)=some (strM (unSeen seen m))
  | []=>rfl
  | p :: m => by
      show (if isPlain (.string p.1) then (match unseen (seen.map Value.string) (strM m) with
        | some l=>some (if (seen.map Value.string).any (veq (.string p.1)) then l else (.sc (.string p.1),p.2)::l)
        | none=>none) else none)=_
      rw [unseen_str m,seen_any]
      simp only [isPlain,if_true]
      unfold unSeen
      rw [List.filter_cons]
      by_cases h:p.1∈seen
      · simp [h]
      · simp [h,strM]
/-- What the step to a next entry gives. -/
def nxS (σ:AStore) (b mb c:Nat) (seen:List ByteArray) (m:List (ByteArray×AVal)):List (AVal×AStore):=
 match unSeen seen m with
 | []=>[(.tuple [.sc (.bool false)],σ)]
 | p::l=>(p::l).map fun q=>(.tuple [.sc (.bool true),.sc (.string q.1),q.2],σ.set b (.miter mb c ((seen++[q.1]).map Value.string)))
theorem nx_str {σ:AStore} {b mb c:Nat} {seen:List ByteArray} {m:List (ByteArray×AVal)}:
  nxMap σ b mb c (seen.map Value.string) (some (.map (strM m) c))=some (nxS σ b mb c seen m):=by
 simp only [nxMap,if_true,unseen_str,nxS]
 cases unSeen seen m with
 | nil=>rfl
 | cons p l=>simp [strM,Function.comp_def,keyV]
theorem nxS_nil {σ:AStore} {b mb c:Nat} {seen:List ByteArray} {m:List (ByteArray×AVal)} (h:unSeen seen m=[]):nxS σ b mb c seen m=[(.tuple [.sc (.bool false)],σ)]:=by
 unfold nxS; rw [h]
theorem nxS_mem {σ:AStore} {b mb c:Nat} {seen:List ByteArray} {m:List (ByteArray×AVal)} (h:unSeen seen m≠[]) {q:AVal×AStore} (hq:q∈nxS σ b mb c seen m):
  ∃ k v,(k,v)∈m/\k ∉ seen/\q=(.tuple [.sc (.bool true),.sc (.string k),v],σ.set b (.miter mb c ((seen++[k]).map Value.string))):=by
 unfold nxS at hq
 split at hq
 ·rename_i h'; exact absurd h' h
 ·rename_i p l hu
  obtain ⟨x,hx,rfl⟩:=List.mem_map.1 hq
  rw [<-hu] at hx
  obtain ⟨h1,h2⟩:=List.mem_filter.1 hx
  exact ⟨x.1,x.2,h1,by simpa using h2,rfl⟩
theorem unSeen_next {seen:List ByteArray} {m:List (ByteArray×AVal)} {k:ByteArray} {v:AVal} (hm:(k,v)∈m) (hk:k ∉ seen):(unSeen (seen++[k]) m).length < (unSeen seen m).length:=by
 unfold unSeen
 have h1:m.filter (fun p=>!decide (p.1∈seen++[k]))=(m.filter fun p=>!decide (p.1∈seen)).filter fun p=>!decide (p.1=k):=by
  rw [List.filter_filter]
  congr 1
  funext p
  rw [Bool.eq_iff_iff]
  simp
  constructor
  ·rintro ⟨a,b⟩; exact ⟨b,a⟩
  ·rintro ⟨a,b⟩; exact ⟨b,a⟩
 rw [h1]
 refine List.length_filter_lt_length_iff_exists.2 ⟨(k,v),List.mem_filter.2 ⟨hm,by simpa using hk⟩,by simp⟩
theorem unSeen_none {seen:List ByteArray} {m:List (ByteArray×AVal)} (h:unSeen seen m=[]) {k:ByteArray} {v:AVal} (hm:(k,v)∈m):k∈seen:=by
 rcases Classical.em (k∈seen) with hk|hk
 ·exact hk
 ·have:(k,v)∈unSeen seen m:=List.mem_filter.2 ⟨hm,by simpa using hk⟩
  rw [h] at this; cases this
theorem findKey_str {k:ByteArray}:∀ (m:List (ByteArray×AVal)),findKey (.string k) (strM m)=(getM m k).map (·.2)
  | []=>rfl
  | p :: m => by
      show (if veq (.string k) (.string p.1) then some p.2 else findKey (.string k) (strM m))=_
      unfold getM
      by_cases h:p.1=k
      · subst h; simp [veq]
      · have:veq (.string k) (.string p.1)=false:=by simp [veq,Ne.symm h]
        rw [this,if_neg h]
        rw [findKey_str m]
        cases getM m k<;>simp
theorem entry_str {σ:AStore} {b mb c:Nat} {seen:List ByteArray} {k:ByteArray} {m:List (ByteArray×AVal)} {j:Nat} {v:AVal} (hg:getM m k=some (j,v)) (h1:σ.get b=some (.miter mb c ((seen++[k]).map Value.string))) (h2:σ.get mb=some (.map (strM m) c)):
  aEntry (.ptr b 0 0) σ=some (.tuple [.sc (.string k),v]):=by
 simp [aEntry,h1,h2,isPlain,findKey_str,hg]
theorem getM_mem:∀ {m:List (ByteArray×AVal)} {k:ByteArray} {v:AVal},(m.map (·.1)).Nodup->(k,v)∈m->∃ j,getM m k=some (j,v)
  | [],k,v,_,h=>by cases h
  | p :: m, k, v, hn, h => by
      rw [List.map_cons,List.nodup_cons] at hn
      unfold getM
      rcases List.mem_cons.1 h with rfl|h
      · exact ⟨0,by simp⟩
      · have hne:p.1≠k:=fun hc=>hn.1 (hc ▸ List.mem_map.2 ⟨(k,v),h,rfl⟩)
        obtain ⟨j,hj⟩:=getM_mem hn.2 h
        exact ⟨j+1,by rw [if_neg hne,hj]; rfl⟩
theorem af_1_0:aFind .string (.string ⟨#[124,124]⟩) [] 0=some none:=by kernel_rfl
theorem af_2_0:aFind .string (.string ⟨#[38,38]⟩) [] 0=some none:=by kernel_rfl
theorem af_3_0:aFind .string (.string ⟨#[60]⟩) [] 0=some none:=by kernel_rfl
theorem af_3_1:aFind .string (.string ⟨#[60,61]⟩) [(.sc (.string ⟨#[60]⟩),(.sc (.int .i64 (10))))] 0=some none:=by kernel_rfl
theorem af_3_2:aFind .string (.string ⟨#[61,61]⟩) [(.sc (.string ⟨#[60]⟩),(.sc (.int .i64 (10)))),(.sc (.string ⟨#[60,61]⟩),(.sc (.int .i64 (11))))] 0=some none:=by kernel_rfl
theorem af_3_3:aFind .string (.string ⟨#[33,61]⟩) [(.sc (.string ⟨#[60]⟩),(.sc (.int .i64 (10)))),(.sc (.string ⟨#[60,61]⟩),(.sc (.int .i64 (11)))),(.sc (.string ⟨#[61,61]⟩),(.sc (.int .i64 (12))))] 0=some none:=by kernel_rfl
theorem af_3_4:aFind .string (.string ⟨#[62,61]⟩) [(.sc (.string ⟨#[60]⟩),(.sc (.int .i64 (10)))),(.sc (.string ⟨#[60,61]⟩),(.sc (.int .i64 (11)))),(.sc (.string ⟨#[61,61]⟩),(.sc (.int .i64 (12)))),(.sc (.string ⟨#[33,61]⟩),(.sc (.int .i64 (13))))] 0=some none:=by kernel_rfl
theorem af_3_5:aFind .string (.string ⟨#[62]⟩) [(.sc (.string ⟨#[60]⟩),(.sc (.int .i64 (10)))),(.sc (.string ⟨#[60,61]⟩),(.sc (.int .i64 (11)))),(.sc (.string ⟨#[61,61]⟩),(.sc (.int .i64 (12)))),(.sc (.string ⟨#[33,61]⟩),(.sc (.int .i64 (13)))),(.sc (.string ⟨#[62,61]⟩),(.sc (.int .i64 (14))))] 0=some none:=by kernel_rfl
theorem af_4_0:aFind .string (.string ⟨#[43]⟩) [] 0=some none:=by kernel_rfl
theorem af_4_1:aFind .string (.string ⟨#[45]⟩) [(.sc (.string ⟨#[43]⟩),(.sc (.int .i64 (5))))] 0=some none:=by kernel_rfl
theorem af_5_0:aFind .string (.string ⟨#[42]⟩) [] 0=some none:=by kernel_rfl
theorem af_5_1:aFind .string (.string ⟨#[47]⟩) [(.sc (.string ⟨#[42]⟩),(.sc (.int .i64 (7))))] 0=some none:=by kernel_rfl
theorem af_5_2:aFind .string (.string ⟨#[37]⟩) [(.sc (.string ⟨#[42]⟩),(.sc (.int .i64 (7)))),(.sc (.string ⟨#[47]⟩),(.sc (.int .i64 (8))))] 0=some none:=by kernel_rfl
theorem ms_str {σ:AStore} {b:Nat} {k:ByteArray} {v:AVal}:aMapSet .string (.map b) (.sc (.string k)) v σ=msAt σ b .string (.string k) v (σ.get b):=aMapSet_map rfl
theorem msAt_map {σ:AStore} {b:Nat} {d:TypeDesc} {k:Value} {v:AVal} {kvs:List (AVal×AVal)} {c:Nat}:msAt σ b d k v (some (.map kvs c))=(aFind d k kvs 0).map fun
  | some (i,_)=>σ.set b (.map (kvs.set i (.sc k,v)) c)
  | none=>σ.set b (.map (kvs++[(.sc k,v)]) (c+1)):=rfl
def rkV:Nat->List (ByteArray×Int)
 | 1=>[(⟨#[124,124]⟩,17)]
 | 2=>[(⟨#[38,38]⟩,16)]
 | 3=>[(⟨#[60]⟩,10),(⟨#[60,61]⟩,11),(⟨#[61,61]⟩,12),(⟨#[33,61]⟩,13),(⟨#[62,61]⟩,14),(⟨#[62]⟩,15)]
 | 4=>[(⟨#[43]⟩,5),(⟨#[45]⟩,6)]
 | 5=>[(⟨#[42]⟩,7),(⟨#[47]⟩,8),(⟨#[37]⟩,9)]
 | _=>[]
def rkM (r:Nat):List (ByteArray×AVal):=(rkV r).map fun p=>(p.1,(.sc (.int .i64 (p.2))))
theorem bA:aBuildA 1 (.agg #[.map none,.map none,.map none,.map none,.map none,.map none]) [(1,.map 1),(2,.map 2),(3,.map 3),(4,.map 4),(5,.map 5)]=some (.agg [.sc (.map none),.map 1,.map 2,.map 3,.map 4,.map 5]):=by kernel_rfl
theorem ranksC {w:WD}:ACalls (EE w) 83 [] empty fun e σ=>e=.ret (.agg [.sc (.map none),.map 1,.map 2,.map 3,.map 4,.map 5])/\σ.next=6/\∀ r,1<=r->r<=5->σ.get r=some (.map (strM (rkM r)) (rkM r).length):=by
 refine of_83 rfl rfl rfl (by kernel_rfl) ?_
 (repeat' first|(refine vy ?_ ?_<;>rintro ⟨hd,hq⟩<;>first|(exfalso; omega)|simp -implicitDefEqProofs only [go_sem,hd]|skip)|refine vz ?_|simp -implicitDefEqProofs only [go_sem,ms_str,msAt_map,af_1_0,af_2_0,af_3_0,af_3_1,af_3_2,af_3_3,af_3_4,af_3_5,af_4_0,af_4_1,af_5_0,af_5_1,af_5_2,Option.map_some,List.nil_append,List.cons_append,List.append_assoc,bA])
 refine ⟨rfl,rfl,?_⟩
 intro r h1 h2
 obtain rfl|rfl|rfl|rfl|rfl:r=1\/r=2\/r=3\/r=4\/r=5:=by omega
 all_goals kernel_rfl
def rankI (k:Int):Int:=if k=17 then 1 else if k=16 then 2 else if 10<=k/\k<=15 then 3 else if k=5\/k=6 then 4 else if 7<=k/\k<=9 then 5 else 0
theorem rk_nodup (r:Nat):((rkM r).map (·.1)).Nodup:=by
 have:((rkV r).map (·.1)).Nodup:=by
  unfold rkV
  split<;>decide
 unfold rkM
 rw [List.map_map]
 exact this
theorem rkV_rank {r:Nat}:∀ p∈rkV r,rankI p.2=(r:Int):=by
 unfold rkV
 split<;>first|decide|(intro p hp; cases hp)
theorem rk_val {r:Nat} {k:ByteArray} {v:AVal} (h:(k,v)∈rkM r):∃ n:Int,v=(.sc (.int .i64 (n)))/\(k,n)∈rkV r:=by
 unfold rkM at h
 obtain ⟨p,hp,he⟩:=List.mem_map.1 h
 cases he
 exact ⟨p.2,rfl,hp⟩
theorem rk_has {k:Int} (h:rankI k≠0):∃ r,1<=r/\r<=5/\∃ s,(s,k)∈rkV r:=by
 have hk:k=5\/k=6\/k=7\/k=8\/k=9\/k=10\/k=11\/k=12\/k=13\/k=14\/k=15\/k=16\/k=17:=by
  unfold rankI at h
  have:5<=k/\k<=17:=by
   split at h
   ·omega
   ·split at h
    ·omega
    ·split at h
     ·omega
     ·split at h
      ·omega
      ·split at h
       ·omega
       ·exact absurd rfl h
  omega
 rcases hk with rfl|rfl|rfl|rfl|rfl|rfl|rfl|rfl|rfl|rfl|rfl|rfl|rfl
 ·exact ⟨4,by decide,by decide,⟨#[43]⟩,by decide⟩
 ·exact ⟨4,by decide,by decide,⟨#[45]⟩,by decide⟩
 ·exact ⟨5,by decide,by decide,⟨#[42]⟩,by decide⟩
 ·exact ⟨5,by decide,by decide,⟨#[47]⟩,by decide⟩
 ·exact ⟨5,by decide,by decide,⟨#[37]⟩,by decide⟩
 ·exact ⟨3,by decide,by decide,⟨#[60]⟩,by decide⟩
 ·exact ⟨3,by decide,by decide,⟨#[60,61]⟩,by decide⟩
 ·exact ⟨3,by decide,by decide,⟨#[61,61]⟩,by decide⟩
 ·exact ⟨3,by decide,by decide,⟨#[33,61]⟩,by decide⟩
 ·exact ⟨3,by decide,by decide,⟨#[62,61]⟩,by decide⟩
 ·exact ⟨3,by decide,by decide,⟨#[62]⟩,by decide⟩
 ·exact ⟨2,by decide,by decide,⟨#[38,38]⟩,by decide⟩
 ·exact ⟨1,by decide,by decide,⟨#[124,124]⟩,by decide⟩
def ranksA:AVal:=.agg [.sc (.map none),.map 1,.map 2,.map 3,.map 4,.map 5]
theorem ranks_at {r:Nat} (h1:1<=r) (h2:r<=5):([AVal.sc (.map none),.map 1,.map 2,.map 3,.map 4,.map 5])[r]?=some (.map r):=by
 obtain rfl|rfl|rfl|rfl|rfl:r=1\/r=2\/r=3\/r=4\/r=5:=by omega
 all_goals rfl
theorem operatorC2 {w:WD} (k:Int):Gives (EE w) 65 [(.sc (.int .i64 (k)))] fun v=>∃ s,v=.tuple [sA s,(.sc (.int .i64 (rankI k)))]/\(rankI k≠0->∃ r,(s,k)∈rkV r):=by
 refine Gives.of (fun _=>.sc _) (.cons _ _ (.sc _) .nil) 3 ?_
 refine of_65 rfl rfl rfl (by kernel_rfl) ?_
 simp -implicitDefEqProofs only [go_sem]
 refine ranksC.mono ?_
 rintro _ σ ⟨rfl,hn,hm⟩
 simp -implicitDefEqProofs only [go_sem]
 refine vlp (ι:=Nat) (fun r=>[(0,(.sc (.int .i64 (k)))),(8,ranksA),(9,(.sc (.int .i64 (r))))]) (fun r σ=>(r<=6/\∀ r' p,r' < r->p∈rkV r'->p.2≠k)/\∀ r,1<=r->r<=5->σ.get r=some (.map (strM (rkM r)) (rkM r).length)) (fun r=>6 - r) (fun _=>rfl) 0 ?_ ?_ ?_
 ·(repeat' (first|exact trivial|refine ⟨rfl,?_⟩))
 ·exact ⟨⟨by omega,fun r' p hr=>by omega⟩,hm⟩
 clear hm hn
 rintro r σ ⟨⟨hr,hok⟩,hm⟩
 simp -implicitDefEqProofs only [go_sem]
 ((first|refine vz2 ?_ ?_|refine vz3 ?_ ?_)<;>intro h2)
 ·have hw:=wrapS (i:=r) (by omega)
  have hr0:(0:Int)<=(r:Int):=by omega
  have hr6:(r:Int) < 6:=by omega
  have hr6':(r:Int) < ((6:Nat):Int):=by omega
  by_cases hz:r=0
  ·subst hz
   (repeat' first|(refine vy ?_ ?_<;>rintro ⟨hd,hq⟩<;>first|(exfalso; omega)|simp -implicitDefEqProofs only [go_sem,hd]|skip)|refine vz ?_|simp -implicitDefEqProofs only [go_sem,ranksA,hr0,hr6,Int.toNat_natCast,hw])
   refine vlp (ι:=Unit) (fun _=>[(0,(.sc (.int .i64 (k)))),(8,ranksA),(9,(.sc (.int .i64 ((0:Nat))))),(14,.ptr σ.next 0 0)]) (fun _ σ'=>σ'.get σ.next=some .mitern/\∀ r,1<=r->r<=5->σ'.get r=some (.map (strM (rkM r)) (rkM r).length)) (fun _=>0) (fun _=>rfl) () ?_ ?_ ?_
   ·(repeat' (first|exact trivial|refine ⟨rfl,?_⟩))
   ·refine ⟨by rw [AStore.get_alloc,if_pos rfl],fun r h1 h2=>get_alloc_old (hm r h1 h2)⟩
   rintro _ σ' ⟨g1,g2⟩
   simp -implicitDefEqProofs only [go_sem,g1,nxAt_mitern,vGo_vals]
   rintro p hp
   obtain rfl:=List.mem_singleton.1 hp
   (repeat' first|(refine vy ?_ ?_<;>rintro ⟨hd,hq⟩<;>first|(exfalso; omega)|simp -implicitDefEqProofs only [go_sem,hd]|skip)|refine vz ?_|simp -implicitDefEqProofs only [go_sem,hw])
   refine ⟨1,by dsimp only; omega,⟨⟨by omega,?_⟩,g2⟩,?_⟩
   ·intro r' p hr' hp
    obtain rfl:r'=0:=by omega
    cases hp
   ·(repeat' (first|exact trivial|refine ⟨rfl,?_⟩))
  ·have hat:=ranks_at (r:=r) (by omega) (by omega)
   have hmr:=hm r (by omega) (by omega)
   (repeat' first|(refine vy ?_ ?_<;>rintro ⟨hd,hq⟩<;>first|(exfalso; omega)|simp -implicitDefEqProofs only [go_sem,hd]|skip)|refine vz ?_|simp -implicitDefEqProofs only [go_sem,ranksA,hr0,hr6',Int.toNat_natCast,hat,hmr,Nat.mul_one])
   refine vlp (ι:=List ByteArray) (fun _=>[(0,(.sc (.int .i64 (k)))),(8,ranksA),(9,(.sc (.int .i64 (r)))),(4,(.sc (.int .i64 (r)))),(14,.ptr σ.next 0 0)]) (fun seen σ'=>(∀ p∈rkV r,p.1∈seen->p.2≠k)/\σ'.get σ.next=some (.miter r (rkM r).length (seen.map Value.string))/\∀ r,1<=r->r<=5->σ'.get r=some (.map (strM (rkM r)) (rkM r).length)) (fun seen=>(unSeen seen (rkM r)).length) (fun _=>rfl) [] ?_ ?_ ?_
   ·(repeat' (first|exact trivial|refine ⟨rfl,?_⟩))
   ·exact ⟨(fun p _ hp=>by cases hp),(by rw [AStore.get_alloc,if_pos rfl]; rfl),fun r h1 h2=>get_alloc_old (hm r h1 h2)⟩
   have hne:σ.next≠r:=by
    intro hc
    have:=AStore.lt_of_get hmr
    omega
   clear hat
   rintro seen σ' ⟨g0,g1,g2⟩
   have hmr':=g2 r (by omega) (by omega)
   simp -implicitDefEqProofs only [go_sem,g1,hmr',nx_str,vGo_vals]
   by_cases hu:unSeen seen (rkM r)=[]
   ·rw [nxS_nil hu]
    rintro p hp
    obtain rfl:=List.mem_singleton.1 hp
    (repeat' first|(refine vy ?_ ?_<;>rintro ⟨hd,hq⟩<;>first|(exfalso; omega)|simp -implicitDefEqProofs only [go_sem,hd]|skip)|refine vz ?_|simp -implicitDefEqProofs only [go_sem,hw])
    refine ⟨r+1,by dsimp only; omega,⟨⟨by omega,?_⟩,g2⟩,?_⟩
    ·intro r' p hr' hp
     rcases Nat.lt_or_ge r' r with h'|h'
     ·exact hok r' p h' hp
     ·obtain rfl:r'=r:=by omega
      refine g0 p hp (unSeen_none (v:=(.sc (.int .i64 (p.2)))) hu ?_)
      exact List.mem_map.2 ⟨p,hp,rfl⟩
    ·(repeat' (first|exact trivial|refine ⟨rfl,?_⟩))
   ·rintro q hq
    obtain ⟨ky,v,m1,m2,rfl⟩:=nxS_mem hu hq
    obtain ⟨n,rfl,m3⟩:=rk_val m1
    obtain ⟨j,hj⟩:=getM_mem (rk_nodup r) m1
    have hlt:=AStore.lt_of_get g1
    have e1:=entry_str (b:=σ.next) (σ:=σ'.set σ.next (.miter r (rkM r).length ((seen++[ky]).map Value.string))) hj (by rw [AStore.get_set,if_pos ⟨rfl,hlt⟩]) (by rw [AStore.get_set,if_neg (fun hc=>hne hc.1.symm)]; exact hmr')
    by_cases h5:n=k
    ·(repeat' first|(refine vy ?_ ?_<;>rintro ⟨hd,hq⟩<;>first|(exfalso; omega)|simp -implicitDefEqProofs only [go_sem,hd]|skip)|refine vz ?_|simp -implicitDefEqProofs only [go_sem,op_entry,opEn_some,e1,dct h5])
     refine ⟨_,_,rfl,rfl,ky,?_,fun _=>⟨r,h5 ▸ m3⟩⟩
     rw [<-h5,rkV_rank _ m3]; rfl
    ·(repeat' first|(refine vy ?_ ?_<;>rintro ⟨hd,hq⟩<;>first|(exfalso; omega)|simp -implicitDefEqProofs only [go_sem,hd]|skip)|refine vz ?_|simp -implicitDefEqProofs only [go_sem,op_entry,opEn_some,e1,dcf h5])
     refine ⟨seen++[ky],unSeen_next m1 m2,⟨?_,by rw [AStore.get_set,if_pos ⟨rfl,hlt⟩],?_⟩,?_⟩
     ·intro p hp hps
      rcases List.mem_append.1 hps with h'|h'
      ·exact g0 p hp h'
      ·have h':=List.mem_singleton.1 h'
       obtain ⟨j2,hj2⟩:=getM_mem (v:=(.sc (.int .i64 (p.2)))) (rk_nodup r) (List.mem_map.2 ⟨p,hp,rfl⟩)
       rw [h',hj] at hj2
       simp only [Option.some.injEq,Prod.mk.injEq,AVal.sc.injEq,Value.int.injEq,true_and] at hj2
       rw [<-hj2.2]; exact h5
     ·intro r' h1 h2
      rw [AStore.get_set,if_neg]
      ·exact g2 r' h1 h2
      ·rintro ⟨rfl,_⟩
       have:=AStore.lt_of_get (hm _ h1 h2)
       omega
     ·(repeat' (first|exact trivial|refine ⟨rfl,?_⟩))
 ·obtain rfl:r=6:=by omega
  (repeat' first|(refine vy ?_ ?_<;>rintro ⟨hd,hq⟩<;>first|(exfalso; omega)|simp -implicitDefEqProofs only [go_sem,hd]|skip)|refine vz ?_|simp -implicitDefEqProofs only [go_sem])
  have:rankI k=0:=by
   rcases Classical.em (rankI k=0) with h|h
   ·exact h
   ·obtain ⟨r,h1,h2,s,hs⟩:=rk_has h
    exact absurd rfl (hok r _ (by omega) hs)
  refine ⟨_,_,rfl,rfl,⟨#[]⟩,?_,fun h=>absurd this h⟩
  rw [this]; rfl
end Abs
end
