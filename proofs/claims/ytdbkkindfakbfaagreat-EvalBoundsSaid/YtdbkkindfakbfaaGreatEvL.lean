/-
  Functions of the program walked: each is shown to compute a plain function (EvL).
-/
import Derived.Test.YtdbkkindfakbfaaGreatEvG
import Derived.Test.YtdbkkindfakbfaaGreatT18
import Derived.Test.YtdbkkindfakbfaaGreatTF
import Derived.Test.YtdbkkindfakbfaaGreatEvP
import Derived.Test.YtdbkkindfakbfaaGreatU1
import Derived.Test.YtdbkkindfakbfaaGreatT1
import Derived.Test.YtdbkkindfakbfaaGreatAbsTyW
import Derived.Test.YtdbkkindfakbfaaGreatAbsRow
noncomputable section
namespace Abs
set_option linter.unusedSimpArgs false
set_option linter.unusedVariables false
set_option maxRecDepth 100000
set_option maxHeartbeats 16000000
open Go Go.Proofs
def BY (n:Nat) (p:RX):Prop:=n<=p.n/\p.n<=1000/\(p.e=0->inM p.v)/\(p.e=101->p.n=1000)
def BX (n:Nat) (p:RX):Prop:=(n=1000/\p.e=101/\p.n=1000)\/(n < 1000/\BY (n+1) p)
def BS (n:Nat) (q:RS):Prop:=n<=q.n/\q.n<=1000/\(q.e=0->inM q.v/\okF q.o)/\(q.e=101->q.n=1000)
theorem inM0:inM 0:=⟨by decide,by decide⟩
theorem BX.by {n:Nat} {p:RX} (h:BX n p):BY n p:=by
 rcases h with ⟨h1,h2,h3⟩|⟨h1,h2,h3,h4,h5⟩
 ·exact ⟨by omega,by omega,fun h=>by omega,fun _=>h3⟩
 ·exact ⟨by omega,h3,h4,h5⟩
theorem BX.lt {n:Nat} {p:RX} (h:BX n p) (he:p.e=0):n < p.n:=by
 rcases h with ⟨h1,h2,h3⟩|⟨h1,h2,h3,h4,h5⟩<;>omega
theorem BY.mono {m n:Nat} {p:RX} (h:BY m p) (hn:n<=m):BY n p:=⟨by have:=h.1; omega,h.2⟩
theorem BS.mono {m n:Nat} {p:RS} (h:BS m p) (hn:n<=m):BS n p:=⟨by have:=h.1; omega,h.2⟩
theorem by_two {E:Ex->Nat->RX} {stop:Int->Bool} {sv:Int} {zs:List Ex} {n:Nat} (hE:∀ y∈zs,∀ m,n<=m->m<=1000->BY m (E y m)) (hn:n<=1000) (hsv:inM sv):BY n (twoG E stop sv zs n):=by
 unfold twoG
 split
 ·rename_i x y
  have hx:=hE x (by simp) n (Nat.le_refl _) hn
  have hy:=hE y (by simp) (E x n).n hx.1 hx.2.1
  dsimp only
  split
  ·exact ⟨hx.1,hx.2.1,fun h=>inM0,hx.2.2.2⟩
  split
  ·exact ⟨hx.1,hx.2.1,fun h=>hsv,fun h=>by cases h⟩
  split
  ·exact ⟨by have:=hx.1; have:=hy.1; dsimp only; omega,hy.2.1,fun h=>inM0,hy.2.2.2⟩
  ·exact ⟨by have:=hx.1; have:=hy.1; dsimp only; omega,hy.2.1,fun h=>by have:=oneI_in (!decide ((E y (E x n).n).v=0)); exact ⟨by dsimp only; omega,by dsimp only; omega⟩,fun h=>by cases h⟩
 ·exact ⟨Nat.le_refl _,hn,fun h=>inM0,fun h=>by cases h⟩
theorem by_if {E:Ex->Nat->RX} {zs:List Ex} {n:Nat} (hE:∀ y∈zs,∀ m,n<=m->m<=1000->BY m (E y m)) (hn:n<=1000):BY n (ifG E zs n):=by
 unfold ifG
 split
 ·rename_i x y z
  have hx:=hE x (by simp) n (Nat.le_refl _) hn
  dsimp only
  split
  ·exact ⟨hx.1,hx.2.1,fun h=>inM0,hx.2.2.2⟩
  split
  ·exact (hE y (by simp) _ hx.1 hx.2.1).mono hx.1
  ·exact (hE z (by simp) _ hx.1 hx.2.1).mono hx.1
 ·exact ⟨Nat.le_refl _,hn,fun h=>inM0,fun h=>by cases h⟩
theorem by_args {E : Ex → Nat → RX} : ∀ {zs : List Ex} {n : Nat}, (∀ y ∈ zs, ∀ m, n ≤ m → m ≤ 1000 → BY m (E y m)) → n ≤ 1000 →
    n<=(argsG E zs n).2.2/\(argsG E zs n).2.2<=1000/\((argsG E zs n).2.1=0->∀ i,inM (vAt (argsG E zs n).1 i))/\((argsG E zs n).2.1=101->(argsG E zs n).2.2=1000)
  | [],n,_,hn=>⟨Nat.le_refl _,hn,fun _ i=>by simp only [argsG]; exact inM0,fun h=>by cases h⟩
  | x :: xs, n, hE, hn => by
      have hx:=hE x (by simp) n (Nat.le_refl _) hn
      have ih:=by_args (E:=E) (zs:=xs) (n:=(E x n).n) (fun y hy m h1 h2=>hE y (List.mem_cons_of_mem _ hy) m (by have:=hx.1; omega) h2) hx.2.1
      simp only [argsG]
      split
      · rename_i h
        exact ⟨hx.1,hx.2.1,fun h'=>absurd h' h,hx.2.2.2⟩
      · rename_i h
        refine ⟨by have:=hx.1; have:=ih.1; dsimp only; omega,ih.2.1,fun h' i=>?_,ih.2.2.2⟩
        cases i with
        | zero=>exact hx.2.2.1 (by omega)
        | succ i=>exact ih.2.2.1 h' i
section
variable {E:Ex->Fr->Nat->RX} {A:List St->Fr->Nat->RS} {n0:Nat}
theorem bs_wh {x : Ex} {b : List St} (hA : ∀ o m, okF o → n0 ≤ m → m ≤ 1000 → BS m (A b o m)) (hE : ∀ o m, okF o → n0 ≤ m → m ≤ 1000 → BX m (E x o m)) :
    ∀ (K:Nat) (val:Int) {o:Fr} {n:Nat},okF o->n0<=n->n<=1000->1000 < K+n->BS n (whG E A x b K val o n)
  | 0,_,o,n,_,_,_,h=>by omega
  | K + 1, val, o, n, ho, h0, hn, h => by
      simp only [whG]
      split
      · exact ⟨Nat.le_refl _,hn,fun _=>⟨inM0,ho⟩,fun h=>by cases h⟩
      have hq:=hA o n ho h0 hn
      split
      · exact hq
      rename_i _ hqr
      have hq0:(A b o n).e=0:=by
        rcases Int.decEq (A b o n).e 0 with h'|h'
        · exact absurd (.inl h') hqr
        · exact h'
      have ho':=(hq.2.2.1 hq0).2
      have hx:=hE (A b o n).o (A b o n).n ho' (by have:=hq.1; omega) hq.2.1
      have hy:=hx.by
      split
      · rename_i he
        exact ⟨by have:=hq.1; have:=hy.1; dsimp only; omega,hy.2.1,fun h=>absurd h he,hy.2.2.2⟩
      · rename_i he
        have:=hx.lt (by omega)
        exact (bs_wh hA hE K _ ho' (by have:=hq.1; have:=hy.1; omega) hy.2.1 (by have:=hq.1; omega)).mono (by have:=hq.1; omega)
theorem bs_sts (hA : ∀ b o m, okSs b = true → okF o → n0 ≤ m → m ≤ 1000 → BS m (A b o m)) (hE : ∀ x o m, okG x = true → okF o → n0 ≤ m → m ≤ 1000 → BX m (E x o m)) :
    ∀ (ss:List St) {o:Fr} {made:List ByteArray} {n:Nat},okSs ss=true->okF o->n0<=n+1->n<=1000->BS n (stsG E A ss o made n)
  | [],o,made,n,_,ho,_,hn=>⟨Nat.le_refl _,hn,fun _=>⟨inM0,okF_dels _ ho⟩,fun h=>by cases h⟩
  | .mk k nm v b els :: r, o, made, n, hs, ho, h0, hn => by
      simp only [okSs,okS,Bool.and_eq_true] at hs
      obtain ⟨⟨⟨hv,hb⟩,hl⟩,hr⟩:=hs
      simp only [stsG]
      split
      · rename_i h; exact ⟨Nat.le_refl _,hn,fun h=>(by cases h),fun _=>h⟩
      rename_i hne
      have hx:=hE v o (n+1) hv ho h0 (by omega)
      have hy:=hx.by
      have ih:=fun {o':Fr} {md:List ByteArray} {m:Nat} (ho':okF o') (h1:n<=m) (h2:m<=1000)=>(bs_sts hA hE r (o:=o') (made:=md) (n:=m) hr ho' (by omega) h2).mono h1
      split
      · rename_i he
        exact ⟨by have:=hy.1; dsimp only; omega,hy.2.1,fun h=>absurd h he,hy.2.2.2⟩
      rename_i he
      have he0:(E v o (n+1)).e=0:=by omega
      have hpv:=hy.2.2.1 he0
      have hp1:n<=(E v o (n+1)).n:=by have:=hy.1; omega
      split
      · exact ⟨hp1,hy.2.1,fun _=>⟨hpv,okF_dels _ ho⟩,fun h=>by cases h⟩
      split
      · exact ih (okF_set ho _ hpv) hp1 hy.2.1
      split
      · exact ih (okF_set ho _ hpv) hp1 hy.2.1
      split
      · have hq:BS (E v o (n+1)).n (if k=3 then A (if (E v o (n+1)).v=0 then els else b) o (E v o (n+1)).n else whG E A v b 1001 (E v o (n+1)).v o (E v o (n+1)).n):=by
          have hle:n0<=(E v o (n+1)).n:=by have:=hy.1; omega
          split
          · refine hA _ o _ ?_ ho hle hy.2.1
            split
            · exact hl
            · exact hb
          · exact bs_wh (fun o m ho h1 h2=>hA b o m hb ho h1 h2) (fun o m ho h1 h2=>hE v o m hv ho h1 h2) 1001 _ ho hle hy.2.1 (by omega)
        revert hq
        generalize (if k=3 then A (if (E v o (n+1)).v=0 then els else b) o (E v o (n+1)).n else whG E A v b 1001 (E v o (n+1)).v o (E v o (n+1)).n)=q
        intro hq
        have hq1:n<=q.n:=by have:=hq.1; omega
        split
        · exact ⟨hq1,hq.2.1,fun h=>⟨(hq.2.2.1 h).1,okF_dels _ (hq.2.2.1 h).2⟩,hq.2.2.2⟩
        · rename_i hqr
          have hq0:q.e=0:=by
            rcases Int.decEq q.e 0 with h'|h'
            · exact absurd (.inl h') hqr
            · exact h'
          exact ih (hq.2.2.1 hq0).2 hq1 hq.2.1
      · exact ih ho hp1 hy.2.1
end
theorem finV_101 {k a b:Int}:(finV 100 7 k a b).2≠101:=by
 unfold finV
 split
 ·show (100:Int)≠101; decide
 ·split
  ·show (7:Int)≠101; decide
  ·show (0:Int)≠101; decide
theorem fcD_ok {l:List Fc} {nm:ByteArray} (hb:∀ f∈l,okSs f.body=true):okSs (fcD l nm).body=true:=by
 unfold fcD fcOf
 cases h:l.find? fun f=>decide (f.nm=nm) with
 | none=>rfl
 | some f=>exact hb f (List.mem_of_find?_eq_some h)
theorem evG_bound {l : List Fc} {g : ByteArray → Int} (hg : ∀ s, inM (g s)) (hb : ∀ f ∈ l, okSs f.body = true) : ∀ N,
    (∀ x o n,okG x=true->okF o->n<=1000->1000<=N+n->BX n ((evG l g N).1 x o n))/\(∀ ss o n,okSs ss=true->okF o->n<=1000->1000<=N+n->BS n ((evG l g N).2 ss o n)):=by
  have key : ∀ (E : Ex → Fr → Nat → RX) (A : List St → Fr → Nat → RS) (n0 : Nat),
      (∀ x o n,okG x=true->okF o->n<=1000->n0<=n->BX n (E x o n))->(∀ ss o n,okSs ss=true->okF o->n<=1000->n0<=n->BS n (A ss o n))->
      (∀ x o n,okG x=true->okF o->n<=1000->n0<=n+1\/n=1000->BX n (expG l g E A x o n)):=by
    intro E A n0 hE hA x o n hx ho hn h0
    obtain ⟨k,nm,i,zs⟩:=x
    simp only [okG,Bool.and_eq_true,decide_eq_true_eq] at hx
    obtain ⟨⟨_,_,hi1,hi2⟩,hzs⟩:=hx
    have hz:=okGs_mem hzs
    simp only [expG]
    split
    · rename_i h; exact .inl ⟨h,rfl,h⟩
    rename_i hne
    refine .inr ⟨by omega,?_⟩
    have h0:n0<=n+1:=by omega
    have hE':∀ y∈zs,∀ m,n+1<=m->m<=1000->BY m ((fun x n=>E x o n) y m):=fun y hy m h1 h2=>(hE y o m (hz y hy) ho h2 (by omega)).by
    split
    · exact ⟨Nat.le_refl _,by dsimp only; omega,fun _=>⟨hi1,hi2⟩,fun h=>by cases h⟩
    split
    · refine ⟨Nat.le_refl _,by dsimp only; omega,fun _=>?_,fun h=>by cases h⟩
      cases hf:fget o nm with
      | none=>exact hg nm
      | some v=>exact okF_get ho hf
    split
    · exact by_two hE' (by omega) inM0
    split
    · exact by_two hE' (by omega) ⟨by decide,by decide⟩
    split
    · exact by_if hE' (by omega)
    have ha:=by_args hE' (by omega:n+1<=1000)
    revert ha
    generalize argsG (fun x n=>E x o n) zs (n+1)=q
    intro ha
    split
    · rename_i h; exact ⟨ha.1,ha.2.1,fun h'=>absurd h' h,ha.2.2.2⟩
    rename_i h
    have hvs:=ha.2.2.1 (by omega)
    split
    · have hr:=hA (fcD l nm).body (frG q.1 (fcD l nm).ps 0 []) q.2.2 (fcD_ok hb) (okF_fr hvs _ _ (fun p hp=>by cases hp)) ha.2.1 (by have:=ha.1; omega)
      split
      · rename_i he; exact ⟨by have:=ha.1; have:=hr.1; dsimp only; omega,hr.2.1,fun h'=>absurd h' he,hr.2.2.2⟩
      · rename_i he; exact ⟨by have:=ha.1; have:=hr.1; dsimp only; omega,hr.2.1,fun _=>(hr.2.2.1 (by omega)).1,fun h'=>by cases h'⟩
    · exact ⟨ha.1,ha.2.1,fun _=>finV_m _ _ _,fun h'=>absurd h' finV_101⟩
  intro N
  induction N with
  | zero=>
    refine ⟨fun x o n hx ho hn h=>key _ _ 2000 (fun _ _ _ _ _ h1 h2=>by omega) (fun _ _ _ _ _ h1 h2=>by omega) x o n hx ho hn (.inr (by omega)),fun ss o n hs ho hn h=>?_⟩
    refine bs_sts (n0:=1001) (fun _ _ _ _ _ h1 h2=>by omega) (fun _ _ _ _ _ h1 h2=>by omega) ss hs ho (by omega) hn
  | succ N ih=>
    refine ⟨fun x o n hx ho hn h=>key _ _ (1000 - N) (fun x o n hx ho hn h=>ih.1 x o n hx ho hn (by omega)) (fun x o n hx ho hn h=>ih.2 x o n hx ho hn (by omega)) x o n hx ho hn (.inl (by omega)),fun ss o n hs ho hn h=>?_⟩
    exact bs_sts (n0:=1000 - N) (fun x o n hx ho h hn=>ih.2 x o n hx ho hn (by omega)) (fun x o n hx ho h hn=>ih.1 x o n hx ho hn (by omega)) ss hs ho (by omega) hn
set_option linter.unusedSectionVars false
mutual
theorem formed_ok:∀ {x:Ex},formedB nameB x=true->fewE x=true->okG x=true
  | .mk k nm i zs, h, h2 => by
      simp only [formedB,Bool.and_eq_true] at h
      obtain ⟨⟨⟨ha,_⟩,_,hi⟩,hz⟩:=h
      simp only [fewE,Bool.and_eq_true] at h2
      simp only [okG,Bool.and_eq_true]
      exact ⟨⟨ha,h2.1,hi⟩,formeds_ok hz h2.2⟩
theorem formeds_ok:∀ {zs:List Ex},formedBs nameB zs=true->fewEs zs=true->okGs zs=true
  | [],_,_=>rfl
  | x :: xs, h, h2 => by
      simp only [formedBs,Bool.and_eq_true] at h
      simp only [fewEs,Bool.and_eq_true] at h2
      simp only [okGs,Bool.and_eq_true]
      exact ⟨formed_ok h.1 h2.1,formeds_ok h.2 h2.2⟩
end
mutual
theorem formedS_ok:∀ {x:St},formedS nameB x=true->fewS x=true->okS x=true
  | .mk k nm v b e, h, h2 => by
      simp only [formedS,Bool.and_eq_true] at h
      obtain ⟨⟨⟨⟨_,hv⟩,_⟩,hb⟩,he⟩:=h
      simp only [fewS,Bool.and_eq_true] at h2
      simp only [okS,Bool.and_eq_true]
      exact ⟨⟨formed_ok hv h2.1.1,formedSs_ok hb h2.1.2⟩,formedSs_ok he h2.2⟩
theorem formedSs_ok:∀ {zs:List St},formedSs nameB zs=true->fewSs zs=true->okSs zs=true
  | [],_,_=>rfl
  | x :: xs, h, h2 => by
      simp only [formedSs,Bool.and_eq_true] at h
      simp only [fewSs,Bool.and_eq_true] at h2
      simp only [okSs,Bool.and_eq_true]
      exact ⟨formedS_ok h.1 h2.1,formedSs_ok h.2 h2.2⟩
end
theorem checkE_ok {x:Ex} (h:checkE nameB x=0):formedB nameB x=true/\okG x=true:=by
 unfold checkE at h
 split at h
 ·rename_i h1
  split at h
  ·rename_i h2
   unfold smallE at h2
   simp only [Bool.and_eq_true] at h2
   exact ⟨h1,formed_ok h1 h2.2⟩
  ·cases h
 ·cases h
theorem checkF_ok {l:List Fc} (h:checkF nameB l=0):∀ f∈l,formedF nameB f=true/\f.ps.length<=4/\okSs f.body=true:=by
 unfold checkF at h
 split at h
 ·rename_i h1
  split at h
  ·rename_i h2
   unfold smallF at h2
   simp only [Bool.and_eq_true,List.all_eq_true,decide_eq_true_eq] at h1 h2
   intro f hf
   have a:=h1 f hf
   have b:=h2.1.1 f hf
   refine ⟨a,b.2,?_⟩
   unfold formedF at a
   simp only [Bool.and_eq_true] at a
   exact formedSs_ok a.2 b.1.2
  ·cases h
 ·cases h
theorem goF_nodup {g:List ByteArray}:∀ (r d:List Fc),(goF g d r).2=0->(d.map Fc.nm).Nodup->((d++r).map Fc.nm).Nodup
  | [],d,_,h=>by simpa using h
  | f :: r, d, h, hd => by
      rw [goF_cons] at h
      by_cases h0:fnE g d f=0
      · rw [if_pos h0] at h
        have hf:f.nm ∉ d.map Fc.nm:=by
          intro hm
          unfold fnE at h0
          rw [if_pos] at h0
          · cases h0
          · right
            obtain ⟨f',hf',he⟩:=List.mem_map.1 hm
            unfold fcOf
            rw [List.find?_isSome]
            exact ⟨f',hf',dct he⟩
        have:=goF_nodup r (d++[f]) h (by
          rw [List.map_append,List.nodup_append]
          refine ⟨hd,by simp,?_⟩
          intro a ha b hb hab
          simp only [List.map_cons,List.map_nil,List.mem_singleton] at hb
          subst hb; subst hab; exact hf ha)
        simpa using this
      · rw [if_neg h0] at h; exact absurd h h0
theorem expP_ok {x:Ex} {g:List ByteArray} {l:List Fc} (h:expP nameB x g l=0):formedB nameB x=true/\okG x=true/\(∀ f∈l,formedF nameB f=true/\f.ps.length<=4/\okSs f.body=true)/\(l.map Fc.nm).Nodup:=by
 rw [expP_if] at h
 split at h
 ·rename_i h1
  split at h
  ·rename_i h2
   have hc:checkF nameB l=0:=by
    unfold funcsP at h2
    split at h2
    ·assumption
    ·exact h2
   have hgo:(goF g [] l).2=0:=by
    unfold funcsP at h2
    rw [hc] at h2
    exact h2
   obtain ⟨a,b⟩:=checkE_ok h1
   exact ⟨a,b,checkF_ok hc,by simpa using goF_nodup l [] hgo (by simp)⟩
  ·rename_i h2; exact absurd h h2
 ·rename_i h1; exact absurd h h1
section
variable {g g':List ByteArray} (hg:∀ s,nameB s=true->(s∈g ↔ s∈g'))
include hg
mutual
theorem expE_nm {o:List ByteArray} {l:List Fc}:∀ {x:Ex},formedB nameB x=true->expE g o l x=expE g' o l x
  | .mk k nm i zs, h => by
      simp only [formedB,Bool.and_eq_true] at h
      obtain ⟨⟨⟨_,hn⟩,_⟩,hz⟩:=h
      unfold expE
      rw [expEs_nm hz]
      by_cases hk:k=2
      · rw [if_pos (.inl hk)] at hn
        simp only [hg nm hn]
      · simp only [if_neg hk]
theorem expEs_nm {o:List ByteArray} {l:List Fc}:∀ {xs:List Ex},formedBs nameB xs=true->expEs g o l xs=expEs g' o l xs
  | [],_=>rfl
  | x :: xs, h => by
      simp only [formedBs,Bool.and_eq_true] at h
      unfold expEs
      rw [expE_nm h.1,expEs_nm h.2]
end
mutual
theorem stE_nm {l:List Fc}:∀ {x:St} {o:List ByteArray},formedS nameB x=true->stE g o l x=stE g' o l x
  | .mk k nm v b e, o, h => by
      simp only [formedS,Bool.and_eq_true] at h
      obtain ⟨⟨⟨⟨⟨_,hn⟩,hv⟩,_⟩,hb⟩,he⟩:=h
      unfold stE
      rw [expE_nm hg hv,stEs_nm hb,stEs_nm he]
      by_cases hk:k=1
      · rw [if_pos (.inl hk)] at hn
        simp only [hg nm hn]
      · have e1:((k=1/\(nm∈g\/nm∈o))\/(k=2/\nm ∉ o)) ↔ ((k=1/\(nm∈g'\/nm∈o))\/(k=2/\nm ∉ o)):=by simp [hk]
        simp only [e1]
theorem stEs_nm {l:List Fc}:∀ {xs:List St} {o:List ByteArray},formedSs nameB xs=true->stEs g o l xs=stEs g' o l xs
  | [],_,_=>rfl
  | .mk k nm v b e :: xs, o, h => by
      simp only [formedSs,Bool.and_eq_true] at h
      unfold stEs
      rw [stE_nm h.1]
      dsimp only
      rw [stEs_nm h.2]
end
theorem parsBad_nm:∀ {ps o:List ByteArray},ps.all nameB=true->parsBad g o ps=parsBad g' o ps
  | [],_,_=>rfl
  | p :: ps, o, h => by
      simp only [List.all_cons,Bool.and_eq_true] at h
      unfold parsBad
      rw [parsBad_nm h.2]
      have:(p∈g\/p∈o) ↔ (p∈g'\/p∈o):=by rw [hg p h.1]
      simp only [this]
theorem fnE_nm {l:List Fc} {f:Fc} (h:formedF nameB f=true):fnE g l f=fnE g' l f:=by
 unfold formedF at h
 simp only [Bool.and_eq_true] at h
 unfold fnE
 rw [stEs_nm hg h.2,parsBad_nm hg h.1.2]
 simp only [hg f.nm h.1.1]
theorem goF_nm:∀ {r d:List Fc},(∀ f∈r,formedF nameB f=true)->goF g d r=goF g' d r
  | [],_,_=>rfl
  | f :: r, d, h => by
      rw [goF_cons,goF_cons,fnE_nm hg (h f (by simp)),goF_nm fun f hf=>h f (List.mem_cons_of_mem _ hf)]
theorem expP_nm {x:Ex} {l:List Fc}:expP nameB x g l=expP nameB x g' l:=by
 rw [expP_if,expP_if]
 have hf:funcsP nameB l g=funcsP nameB l g':=by
  unfold funcsP
  by_cases hc:checkF nameB l=0
  ·rw [hc]; exact goF_nm hg fun f hf=>(checkF_ok hc f hf).1
  ·split
   ·rename_i h; exact absurd h hc
   ·rfl
 rw [hf]
 by_cases h:checkE nameB x=0
 ·rw [expE_nm hg (checkE_ok h).1]
 ·rw [if_neg h,if_neg h]
end
def goodB (gl:List (ByteArray×Int)):Bool:=decide (gl.map (·.1)).Nodup && gl.all fun p=>decide (-2147483648<=p.2) && decide (p.2<=2147483648)
theorem goodB_iff {gl:List (ByteArray×Int)}:goodB gl=true ↔ (gl.map (·.1)).Nodup/\∀ p∈gl,-2147483648<=p.2/\p.2<=2147483648:=by
 unfold goodB
 simp only [Bool.and_eq_true,decide_eq_true_eq,List.all_eq_true]
theorem goodB_snoc {gl:List (ByteArray×Int)} {p:ByteArray×Int}:goodB (gl++[p])=true ↔ goodB gl=true/\p.1 ∉ gl.map (·.1)/\-2147483648<=p.2/\p.2<=2147483648:=by
 simp only [goodB_iff,List.map_append,List.map_cons,List.map_nil,List.nodup_append,List.mem_append,List.mem_singleton,List.nodup_cons,List.not_mem_nil,not_false_eq_true,List.nodup_nil,and_true,true_and]
 constructor
 ·rintro ⟨⟨h1,h2⟩,h3⟩
  exact ⟨⟨h1,fun q hq=>h3 q (.inl hq)⟩,fun hm=>h2 _ hm _ rfl rfl,h3 p (.inr rfl)⟩
 ·rintro ⟨⟨h1,h3⟩,h2,h4⟩
  refine ⟨⟨h1,fun a ha b hb hab=>?_⟩,fun q hq=>?_⟩
  ·subst hb; subst hab; exact h2 ha
  ·rcases hq with hq|rfl
   ·exact h3 q hq
   ·exact h4
theorem goodB_take {gl:List (ByteArray×Int)} (h:goodB gl=true) (j:Nat):goodB (gl.take j)=true:=by
 rw [goodB_iff] at h ⊢
 refine ⟨?_,fun p hp=>h.2 p (List.mem_of_mem_take hp)⟩
 rw [List.map_take]
 exact h.1.sublist (List.take_sublist _ _)
theorem bad_at {gl:List (ByteArray×Int)} {j:Nat} {p:ByteArray×Int} (hp:gl[j]?=some p) (h:p.1∈(gl.take j).map (·.1)\/p.2 > 2147483648\/p.2 < -2147483648):goodB gl=false:=by
 cases hg:goodB gl with
 | false=>rfl
 | true=>
  have:=goodB_take hg (j+1)
  rw [List.take_add_one,hp] at this
  obtain ⟨_,h2,h3⟩:=goodB_snoc.1 this
  rcases h with h|h|h
  ·exact absurd h h2
  ·omega
  ·omega
theorem gM_has {k:ByteArray}:∀ {l:List (ByteArray×Int)},k∈l.map (·.1)->∃ q,getM (gM l) k=some q
  | [],h=>by cases h
  | p :: l, h => by
      by_cases hk:p.1=k
      · exact ⟨_,by simp only [gM,List.map_cons,getM,if_pos hk]; rfl⟩
      · simp only [List.map_cons,List.mem_cons] at h
        obtain ⟨q,hq⟩:=gM_has (h.resolve_left (Ne.symm hk))
        simp only [gM] at hq
        exact ⟨(q.1+1,q.2),by simp only [gM,List.map_cons,getM,if_neg hk,hq]; rfl⟩
/-- What eval.run answers. -/
def earlyA (e:Int):AVal:=.tuple [(.sc (.int .i64 (0))),(.sc (.int .i64 (0))),(.sc (.int .i64 (e))),(.sc (.bool (true)))]
def runZ (x:Ex) (gl:List (ByteArray×Int)) (fs:List Fc):AVal:=
 if goodB gl=false then earlyA 2 else
 if expP nameB x (gl.map (·.1)) fs≠0 then earlyA (expP nameB x (gl.map (·.1)) fs) else runG ((evG fs (gval gl) 1000).1 x [] 0)
def runAll (x:Ex) (ns:List ByteArray) (vs:List Int) (fs:List Fc):AVal:=
 if ns.length≠vs.length then earlyA 2 else runZ x (ns.zip vs) fs
theorem runZC {w:WD} {x:Ex} {X N V L:AVal} {gl:List (ByteArray×Int)} {fs:List Fc} {els:List AVal} (hX:IsEx x X) (hN:IsD 1 N (gl.map fun p=>sA p.1)) (hV:IsD 1 V (gl.map fun p=>(.sc (.int .i64 (p.2)))))
  (hl:gl.length<=1000000) (hL:IsD 3 L els) (hF:IsFcs fs els) (hfl:els.length<=1000000) (hwf:goodB gl=true->expP nameB x (gl.map (·.1)) fs=0->okG x=true/\FnOk fs els) (hT:∀ w:WD,GivesV (EE w) 27 [X,N,L] (.sc (.int .i64 (expP nameB x (gl.map (·.1)) fs)))):
  Gives (EE w) 19 [X,N,V,L] fun v=>v=runZ x gl fs:=by
 refine Gives.of (fun _=>.sc _) (.cons _ _ hX.wf (.cons _ _ (hN.wf (WFs.map fun _=>.sc _)) (.cons _ _ (hV.wf (WFs.map fun _=>.sc _)) (.cons _ _ (hL.wf hF.wf) .nil)))) 2 ?_
 have hNn:=fun σ:AStore=>hN.lenN (by simp) (n:=gl.length) (σ:=σ)
 have hVn:=fun σ:AStore=>hV.lenN (by simp) (n:=gl.length) (σ:=σ)
 obtain ⟨k,nm,i,zs⟩:=x
 have hX0:=hX
 simp only [IsEx] at hX
 obtain ⟨S,es0,rfl,hS,_⟩:=hX
 have kS:=hS.fit
 have cS:=hS.cells
 have iS:=hS.isCell
 refine ot_19 rfl rfl rfl (by decide) ?_
 refine Top_seq0 (E:=EE ⟨w.w,[]⟩) (fn:=Tryz.f19) rfl rfl (Z_ofV ?_)
 simp -implicitDefEqProofs only [go_sem,kS,cS,iS]
 refine Top_seq0 (E:=EE ⟨w.w,[]⟩) (fn:=Tryz.f19) rfl rfl (Z_ofV ?_)
 (repeat' first|(refine vy ?_ ?_<;>rintro ⟨hd,hq⟩<;>first|(exfalso; omega)|simp -implicitDefEqProofs only [go_sem,hd]|skip)|refine vz ?_|simp -implicitDefEqProofs only [go_sem,hNn,hVn])
 refine Top_seq0 (E:=EE ⟨w.w,[]⟩) (fn:=Tryz.f19) rfl rfl (Z_ofV ?_)
 simp -implicitDefEqProofs only [go_sem]
 refine opsC.mono ?_
 rintro _ τ ⟨rfl,kO,b1,b2,hO⟩
 simp -implicitDefEqProofs only [go_sem]
 have hpm:8<=τ.next:=AStore.lt_of_get hO.m
 have hkk:∀ a b c:ABlk,KeepS τ (((τ.alloc a).alloc b).set (τ.next+1) c):=fun a b c=>((KeepS.alloc τ a).trans (KeepS.alloc _ b)).set (by omega) c
 have gm:∀ a b c:ABlk,(((τ.alloc a).alloc b).set (τ.next+1) c).get τ.next=some a:=fun a b c=>by
  rw [AStore.get_set,if_neg (by omega)]; exact get_alloc_old (by rw [AStore.get_alloc,if_pos rfl])
 have gp:∀ a b c:ABlk,(((τ.alloc a).alloc b).set (τ.next+1) c).get (τ.next+1)=some c:=fun a b c=>gss (by simp only [alloc_next]; omega)
 have hn1:∀ a b c:ABlk,(((τ.alloc a).alloc b).set (τ.next+1) c).next=τ.next+2:=fun a b c=>by simp only [set_next,alloc_next]
 have gm:=gm (.cells 4 [.agg [.map 5,.map 6,.map 7,(.sc (.int .i64 (0)))]]) (.cells 1 [.sc (.pointer none)]) (.cells 1 [.ptr τ.next 0 0])
 have gp:=gp (.cells 4 [.agg [.map 5,.map 6,.map 7,(.sc (.int .i64 (0)))]]) (.cells 1 [.sc (.pointer none)]) (.cells 1 [.ptr τ.next 0 0])
 have hn1:=hn1 (.cells 4 [.agg [.map 5,.map 6,.map 7,(.sc (.int .i64 (0)))]]) (.cells 1 [.sc (.pointer none)]) (.cells 1 [.ptr τ.next 0 0])
 have hkk:=hkk (.cells 4 [.agg [.map 5,.map 6,.map 7,(.sc (.int .i64 (0)))]]) (.cells 1 [.sc (.pointer none)]) (.cells 1 [.ptr τ.next 0 0])
 generalize hτ1:((τ.alloc (.cells 4 [.agg [.map 5,.map 6,.map 7,(.sc (.int .i64 (0)))]])).alloc (.cells 1 [.sc (.pointer none)])).set (τ.next+1) (.cells 1 [.ptr τ.next 0 0])=τ1 at gm gp hn1 hkk ⊢
 have g0:=hkk.2 0 _ (kO.2 0 (.cells 4 [.agg [(.sc (.int .i64 (k))),.sc (.string nm),(.sc (.int .i64 (i))),S]]) (by kernel_rfl))
 have g1:=hkk.2 1 _ (kO.2 1 (.cells 1 [(.sc (.int .i64 (0)))]) (by kernel_rfl))
 have g2:=hkk.2 2 _ (kO.2 2 (.cells 1 [(.sc (.int .i64 (0)))]) (by kernel_rfl))
 have g3:=hkk.2 3 _ (kO.2 3 (.cells 1 [(.sc (.int .i64 (0)))]) (by kernel_rfl))
 have g4:=hkk.2 4 _ (kO.2 4 (.cells 1 [(.sc (.bool (false)))]) (by kernel_rfl))
 have g6:=hkk.2 6 _ (kO.2 6 (.map [] 0) (by kernel_rfl))
 have g5:=hkk.2 5 _ (kO.2 5 (.map [] 0) (by kernel_rfl))
 have hO1:OpsM τ1 7 b1 b2:=⟨hkk.2 _ _ hO.m,hkk.2 _ _ hO.d,hkk.2 _ _ hO.r⟩
 have hpb1:b1≠τ.next:=by rintro rfl; exact absurd (AStore.lt_of_get hO.d) (Nat.lt_irrefl _)
 have hpb2:b2≠τ.next:=by rintro rfl; exact absurd (AStore.lt_of_get hO.r) (Nat.lt_irrefl _)
 clear hτ1 kO hO hkk
 have hb5:∀ b,(∃ l c,τ1.get b=some (.cells l c))->b≠5:=by rintro b ⟨l,c,h⟩ rfl; rw [g5] at h; cases h
 refine Top_seq0 (E:=EE ⟨w.w,[]⟩) (fn:=Tryz.f19) rfl rfl (Z_ofV ?_)
 simp -implicitDefEqProofs only [go_sem,hNn]
 refine vlp (ι:=Nat) (fun j=>[(1,N),(2,V),(3,L),(4,.ptr 0 0 0),(8,.ptr 1 0 0),(9,.ptr 2 0 0),(10,.ptr 3 0 0),(11,.ptr 4 0 0),(12,.ptr (τ.next+1) 0 0),(30,N),(31,(.sc (.int .i64 (gl.length)))),(32,(.sc (.int .i64 (j))))]) (fun j ρ=>j<=gl.length/\KeepM 5 τ1 ρ/\(∃ c,ρ.get 5=some (.map (strM (gM (gl.take j))) c))/\goodB (gl.take j)=true) (fun j=>gl.length - j) (fun _=>rfl) 0 ?_ ?_ ?_
 ·(repeat' (first|exact trivial|refine ⟨rfl,?_⟩))
 ·exact ⟨Nat.zero_le _,KeepM.refl _ _,⟨0,g5⟩,rfl⟩
 ·rintro j ρ ⟨hj,kr,⟨c,q5⟩,hgd⟩
  have r12:=kr.2 _ _ (hb5 _ ⟨_,_,gp⟩) gp
  have rpm:=kr.2 _ _ (hb5 _ ⟨_,_,gm⟩) gm
  simp -implicitDefEqProofs only [go_sem]
  ((first|refine vz2 ?_ ?_|refine vz3 ?_ ?_)<;>intro hlt)
  ·obtain ⟨p,hp⟩:∃ p,gl[j]?=some p:=⟨gl[j]'(by omega),by simp⟩
   have e1:(gl.map fun p=>sA p.1)[j]?=some (sA p.1):=by rw [List.getElem?_map,hp]; rfl
   have e2:(gl.map fun p=>((.sc (.int .i64 (p.2))):AVal))[j]?=some (.sc (.int .i64 (p.2))):=by rw [List.getElem?_map,hp]; rfl
   have hw:=wrapS (i:=j) (by omega)
   have hcs:(sA p.1).cells=[.sc (.string p.1)]:=rfl
   have r1:=kr.2 _ _ (by decide) g1
   have r2:=kr.2 _ _ (by decide) g2
   have r3:=kr.2 _ _ (by decide) g3
   have r4:=kr.2 _ _ (by decide) g4
   by_cases hm:p.1∈(gl.take j).map (·.1)
   ·obtain ⟨q,hq⟩:=gM_has hm
    have hlo:lkAt .string (.int .i64 0) true (.string p.1) (some (.map (strM (gM (gl.take j))) c))=some (.tuple [q.2,(.sc (.bool (true)))]):=by rw [lk_at,hq]; rfl
    have hbad:=bad_at hp (.inl hm)
    (repeat' first|(refine vy ?_ ?_<;>rintro ⟨hd,hq⟩<;>first|(exfalso; omega)|simp -implicitDefEqProofs only [go_sem,hd]|skip)|refine vz ?_|simp -implicitDefEqProofs only [go_sem,hcs,hN.idx e1,hV.idx e2,r12,rpm,q5,lk_strS,hlo])
    have l1:=AStore.lt_of_get r1
    have l2:=AStore.lt_of_get r2
    have l3:=AStore.lt_of_get r3
    have l4:=AStore.lt_of_get r4
    simp -implicitDefEqProofs only [go_sem,r1,r2,r3,r4,l1,l2,l3,l4]
    rw [show Tryz.f19.results.toList=[.cell 8 2,.cell 9 3,.cell 10 32,.cell 11 4] from rfl]
    simp -implicitDefEqProofs only [go_sem,AStore.get_set,set_next,r1,r2,r3,r4,l1,l2,l3,l4]
    exact ⟨_,_,rfl,rfl,by unfold runZ; rw [if_pos hbad]; rfl⟩
   have hnm:getM (gM (gl.take j)) p.1=none:=getM_appG (v:=0) hm
   have hlo:lkAt .string (.int .i64 0) true (.string p.1) (some (.map (strM (gM (gl.take j))) c))=some (.tuple [(.sc (.int .i64 (0))),(.sc (.bool (false)))]):=by rw [lk_at,hnm]; rfl
   by_cases bh':p.2 > 2147483648
   ·have hbad:=bad_at hp (.inr (.inl bh'))
    (repeat' first|(refine vy ?_ ?_<;>rintro ⟨hd,hq⟩<;>first|(exfalso; omega)|simp -implicitDefEqProofs only [go_sem,hd]|skip)|refine vz ?_|simp -implicitDefEqProofs only [go_sem,hcs,hN.idx e1,hV.idx e2,r12,rpm,q5,lk_strS,hlo,dct bh'])
    have l1:=AStore.lt_of_get r1
    have l2:=AStore.lt_of_get r2
    have l3:=AStore.lt_of_get r3
    have l4:=AStore.lt_of_get r4
    simp -implicitDefEqProofs only [go_sem,r1,r2,r3,r4,l1,l2,l3,l4]
    rw [show Tryz.f19.results.toList=[.cell 8 2,.cell 9 3,.cell 10 32,.cell 11 4] from rfl]
    simp -implicitDefEqProofs only [go_sem,AStore.get_set,set_next,r1,r2,r3,r4,l1,l2,l3,l4]
    exact ⟨_,_,rfl,rfl,by unfold runZ; rw [if_pos hbad]; rfl⟩
   by_cases bl':p.2 < -2147483648
   ·have hbad:=bad_at hp (.inr (.inr bl'))
    (repeat' first|(refine vy ?_ ?_<;>rintro ⟨hd,hq⟩<;>first|(exfalso; omega)|simp -implicitDefEqProofs only [go_sem,hd]|skip)|refine vz ?_|simp -implicitDefEqProofs only [go_sem,hcs,hN.idx e1,hV.idx e2,r12,rpm,q5,lk_strS,hlo,dcf bh',dct bl'])
    have l1:=AStore.lt_of_get r1
    have l2:=AStore.lt_of_get r2
    have l3:=AStore.lt_of_get r3
    have l4:=AStore.lt_of_get r4
    simp -implicitDefEqProofs only [go_sem,r1,r2,r3,r4,l1,l2,l3,l4]
    rw [show Tryz.f19.results.toList=[.cell 8 2,.cell 9 3,.cell 10 32,.cell 11 4] from rfl]
    simp -implicitDefEqProofs only [go_sem,AStore.get_set,set_next,r1,r2,r3,r4,l1,l2,l3,l4]
    exact ⟨_,_,rfl,rfl,by unfold runZ; rw [if_pos hbad]; rfl⟩
   (repeat' first|(refine vy ?_ ?_<;>rintro ⟨hd,hq⟩<;>first|(exfalso; omega)|simp -implicitDefEqProofs only [go_sem,hd]|skip)|refine vz ?_|simp -implicitDefEqProofs only [go_sem,hcs,hN.idx e1,hV.idx e2,r12,rpm,q5,lk_strS,hlo,dcf bh',dcf bl'])
   ((try (refine Z_seq ?_; (try simp -implicitDefEqProofs only [go_sem]))); refine Z_draw (by kernel_rfl) [0,1,2,3,4,5,6,7,8,9] [(9,511),(8,224),(7,96),(6,0),(5,0),(4,0),(3,7),(2,3),(1,1),(0,0)] (by kernel_rfl) (by kernel_rfl) ?_)
   have b5:=AStore.lt_of_get q5
   simp -implicitDefEqProofs only [go_sem,hcs,hV.idx e2,r12,rpm,q5,ms_str,ms_new hnm]
   (repeat' first|(refine vy ?_ ?_<;>rintro ⟨hd,hq⟩<;>first|(exfalso; omega)|simp -implicitDefEqProofs only [go_sem,hd]|skip)|refine vz ?_|simp -implicitDefEqProofs only [go_sem,hw])
   have:gl.take (j+1)=gl.take j++[p]:=by rw [List.take_add_one,hp]; rfl
   refine ⟨j+1,by dsimp only; omega,⟨by omega,(kr.set _),⟨c+1,?_⟩,by rw [this]; exact goodB_snoc.2 ⟨hgd,hm,by omega,by omega⟩⟩,by (repeat' (first|exact trivial|refine ⟨rfl,?_⟩))⟩
   rw [gss b5,this]
   simp only [gM,List.map_append,List.map_cons,List.map_nil]
  ·obtain rfl:j=gl.length:=by omega
   rw [List.take_length] at q5 hgd
   have hb:=(goodB_iff.1 hgd).2
   have r0:=kr.2 _ _ (by decide) g0
   have r1:=kr.2 _ _ (by decide) g1
   have r2:=kr.2 _ _ (by decide) g2
   have r3:=kr.2 _ _ (by decide) g3
   have r4:=kr.2 _ _ (by decide) g4
   have g6':=kr.2 _ _ (by decide) g6
   have hnr:τ.next+1 < ρ.next:=AStore.lt_of_get r12
   have rpm:=kr.2 _ _ (hb5 _ ⟨_,_,gm⟩) gm
   have hOρ:OpsM ρ 7 b1 b2:=⟨kr.2 _ _ (by decide) hO1.m,kr.2 _ _ (hb5 _ ⟨_,_,hO1.d⟩) hO1.d,kr.2 _ _ (hb5 _ ⟨_,_,hO1.r⟩) hO1.r⟩
   (repeat' first|(refine vy ?_ ?_<;>rintro ⟨hd,hq⟩<;>first|(exfalso; omega)|simp -implicitDefEqProofs only [go_sem,hd]|skip)|refine vz ?_|simp -implicitDefEqProofs only [go_sem])
   refine Top_seq0 (E:=EE ⟨w.w,[]⟩) (fn:=Tryz.f19) rfl rfl (Z_ofV ?_)
   simp -implicitDefEqProofs only [go_sem,r0]
   refine (hT ⟨w.w,[]⟩).use ?_
   by_cases hte:expP nameB (.mk k nm i zs) (gl.map (·.1)) fs=0
   rotate_left
   ·(repeat' first|(refine vy ?_ ?_<;>rintro ⟨hd,hq⟩<;>first|(exfalso; omega)|simp -implicitDefEqProofs only [go_sem,hd]|skip)|refine vz ?_|simp -implicitDefEqProofs only [go_sem,dcf hte])
    have l1:=AStore.lt_of_get r1
    have l2:=AStore.lt_of_get r2
    have l3:=AStore.lt_of_get r3
    have l4:=AStore.lt_of_get r4
    simp -implicitDefEqProofs only [go_sem,r1,r2,r3,r4,l1,l2,l3,l4]
    rw [show Tryz.f19.results.toList=[.cell 8 2,.cell 9 3,.cell 10 32,.cell 11 4] from rfl]
    simp -implicitDefEqProofs only [go_sem,AStore.get_set,set_next,r1,r2,r3,r4,l1,l2,l3,l4]
    exact ⟨_,_,rfl,rfl,by unfold runZ; rw [if_neg (by rw [hgd]; decide),if_pos hte]; rfl⟩
   obtain ⟨hok,hfs⟩:=hwf hgd hte
   have hrz:runZ (.mk k nm i zs) gl fs=runG ((evG fs (gval gl) 1000).1 (.mk k nm i zs) [] 0):=by
    unfold runZ
    rw [if_neg (by rw [hgd]; decide),if_neg (by rw [hte]; decide)]
   rw [hte]
   (repeat' first|(refine vy ?_ ?_<;>rintro ⟨hd,hq⟩<;>first|(exfalso; omega)|simp -implicitDefEqProofs only [go_sem,hd]|skip)|refine vz ?_|simp -implicitDefEqProofs only [go_sem])
   refine Top_seq0 (E:=EE ⟨w.w,[]⟩) (fn:=Tryz.f19) rfl rfl (Z_ofV ?_)
   have hfe:=hfs.d.len
   have hLn:=fun σ:AStore=>hL.lenN hfe (σ:=σ)
   (repeat' first|(refine vy ?_ ?_<;>rintro ⟨hd,hq⟩<;>first|(exfalso; omega)|simp -implicitDefEqProofs only [go_sem,hd]|skip)|refine vz ?_|simp -implicitDefEqProofs only [go_sem,hLn])
   refine vlp (ι:=Nat) (fun j=>[(4,.ptr 0 0 0),(8,.ptr 1 0 0),(9,.ptr 2 0 0),(10,.ptr 3 0 0),(11,.ptr 4 0 0),(12,.ptr (τ.next+1) 0 0),(78,L),(79,(.sc (.int .i64 (fs.length)))),(80,(.sc (.int .i64 (j))))]) (fun j μ=>j<=fs.length/\KeepM 6 ρ μ/\∃ c,μ.get 6=some (.map (strM (fnM (fs.take j) (els.take j))) c)) (fun j=>fs.length - j) (fun _=>rfl) 0 ?_ ?_ ?_
   ·(repeat' (first|exact trivial|refine ⟨rfl,?_⟩))
   ·exact ⟨Nat.zero_le _,KeepM.refl _ _,0,g6'⟩
   have hb6:∀ b,(∃ l c,ρ.get b=some (.cells l c))->b≠6:=by rintro b ⟨l,c,h⟩ rfl; rw [g6'] at h; cases h
   rintro j μ ⟨hj,kμ,c6,q6⟩
   have r12:=kμ.2 _ _ (hb6 _ ⟨_,_,r12⟩) r12
   have rpm:=kμ.2 _ _ (hb6 _ ⟨_,_,rpm⟩) rpm
   simp -implicitDefEqProofs only [go_sem]
   ((first|refine vz2 ?_ ?_|refine vz3 ?_ ?_)<;>intro hlt)
   ·obtain ⟨f,hf⟩:∃ f,fs[j]?=some f:=⟨fs[j]'(by omega),by simp⟩
    obtain ⟨e,he,hfe⟩:=hfs.d.at' j f hf
    obtain ⟨c1,c2,c3⟩:=hfe.isA.facts
    have cc:=hfe.cellsOk
    have hsp:=fun a b c=>hfe.isA.splice3 (a:=a) (b:=b) (c:=c)
    have hfe':=hfe
    obtain ⟨SP,SB,eb,rfl,hP,hB,_⟩:=hfe'
    have cP:=hP.cells
    have iP:=hP.isCell
    have cB:=hB.cells
    have iB:=hB.isCell
    have kP:=hP.fit
    have kB:=hB.fit
    have hw:=wrapS (i:=j) (by omega)
    have hnm:getM (fnM (fs.take j) (els.take j)) f.nm=none:=fnM_none (by
     intro hm
     rw [List.map_take] at hm
     obtain ⟨q,hq,hee⟩:=List.mem_take_iff_getElem.1 hm
     have h1:(fs.map Fc.nm)[j]'(by simp; omega)=f.nm:=by
      have:(fs.map Fc.nm)[j]?=some f.nm:=by rw [List.getElem?_map,hf]; rfl
      rw [List.getElem?_eq_getElem (by simp; omega)] at this
      exact Option.some.inj this
     have:=(List.getElem_inj hfs.u (h₀:=by simp at hq ⊢; omega) (h₁:=by simp; omega)).1 (hee.trans h1.symm)
     simp at hq; omega)
    have l6:=AStore.lt_of_get q6
    have lpm:=AStore.lt_of_get rpm
    have nn1:(6=μ.next)=False:=eq_false (by omega)
    have nn2:(τ.next=μ.next)=False:=eq_false (by omega)
    have nn3:(τ.next+1=μ.next)=False:=eq_false (by have:=AStore.lt_of_get r12; omega)
    (repeat' first|(refine vy ?_ ?_<;>rintro ⟨hd,hq⟩<;>first|(exfalso; omega)|simp -implicitDefEqProofs only [go_sem,hd]|skip)|refine vz ?_|simp -implicitDefEqProofs only [go_sem,hL.idx he,c1,c2,c3,cc,hsp,cP,iP,cB,iB,kP,kB])
    ((try (refine Z_seq ?_; (try simp -implicitDefEqProofs only [go_sem]))); refine Z_draw (by kernel_rfl) [0,1,2,3,4,5,6,7] [(7,127),(6,0),(5,16),(4,0),(3,7),(2,3),(1,1),(0,0)] (by kernel_rfl) (by kernel_rfl) ?_)
    simp -implicitDefEqProofs only [go_sem,r12,rpm,q6,ms_str,ms_new hnm,nn1,nn2,nn3,if_false,kP,kB,cP,iP,cB,iB]
    (repeat' first|(refine vy ?_ ?_<;>rintro ⟨hd,hq⟩<;>first|(exfalso; omega)|simp -implicitDefEqProofs only [go_sem,hd]|skip)|refine vz ?_|simp -implicitDefEqProofs only [go_sem,hw])
    have kk:∀ a b,KeepM 6 ρ ((μ.alloc a).set μ.next b):=fun a b=>kμ.trans ((KeepS.alloc μ a).set (Nat.le_refl _) b).m
    refine ⟨j+1,by dsimp only; omega,⟨by omega,(kk _ _).set _,c6+1,?_⟩,by (repeat' (first|exact trivial|refine ⟨rfl,?_⟩))⟩
    rw [gss (by rw [set_next,alloc_next]; omega),fnM_snoc hf he]
   ·obtain rfl:j=fs.length:=by omega
    rw [List.take_length,List.take_of_length_le (by omega)] at q6
    have r0:=kμ.2 _ _ (by decide) r0
    have r1:=kμ.2 _ _ (by decide) r1
    have r2:=kμ.2 _ _ (by decide) r2
    have r3:=kμ.2 _ _ (by decide) r3
    have r4:=kμ.2 _ _ (by decide) r4
    have hMc:Mg μ τ.next 5 6 7 b1 b2 0 gl fs els:=⟨rpm,⟨c,kμ.2 _ _ (by decide) q5⟩,⟨c6,q6⟩,⟨kμ.2 _ _ (by decide) hOρ.m,kμ.2 _ _ (hb6 _ ⟨_,_,hOρ.d⟩) hOρ.d,kμ.2 _ _ (hb6 _ ⟨_,_,hOρ.r⟩) hOρ.r⟩,by omega,by omega,by omega,hpb1,hpb2⟩
    have hnr:τ.next+1 < μ.next:=AStore.lt_of_get r12
    (repeat' first|(refine vy ?_ ?_<;>rintro ⟨hd,hq⟩<;>first|(exfalso; omega)|simp -implicitDefEqProofs only [go_sem,hd]|skip)|refine vz ?_|simp -implicitDefEqProofs only [go_sem])
    refine Top_dfr1 (E:=EE ⟨w.w,[]⟩) (Ed:=fun ds=>EE ⟨w.w,ds⟩) (fun _=>rfl) rfl rfl ?_
    simp -implicitDefEqProofs only [go_sem]
    refine ⟨⟨.func 28,[.ptr (τ.next+1) 0 0,.ptr 1 0 0,.ptr 2 0 0,.ptr 3 0 0,.ptr 4 0 0],[]⟩,rfl,?_⟩
    refine Top_undsR (rs:=[.cell 8 2,.cell 9 3,.cell 10 32,.cell 11 4]) (E:=EE ⟨w.w,[]⟩) (Ed:=fun ds=>EE ⟨w.w,ds⟩) (fun _=>rfl) rfl (g:=28) (cap:=[.ptr (τ.next+1) 0 0,.ptr 1 0 0,.ptr 2 0 0,.ptr 3 0 0,.ptr 4 0 0]) (as':=[]) rfl rfl rfl (Z_ofV ?_)
    simp -implicitDefEqProofs only [go_sem,r12,r0]
    refine ((evGC (gval_inG hb) hfs 1000).1 _ (w:=⟨w.w,_⟩) hX0 hok hMc (.inl ⟨rfl,rfl⟩) (fun p hp=>by cases hp) (by decide) (by decide)).mono ?_
    rintro _ ρ1 ⟨rfl,_,kp,_,_,mm⟩
    have s1:=kp.2 _ _ (by omega) r1
    have s2:=kp.2 _ _ (by omega) r2
    have s3:=kp.2 _ _ (by omega) r3
    have s4:=kp.2 _ _ (by omega) r4
    have s12:=kp.2 _ _ (by omega) r12
    have mm':ρ1.get τ.next=some (.cells 4 [.agg [.map 5,.map 6,.map 7,(.sc (.int .i64 (((evG fs (gval gl) 1000).1 (.mk k nm i zs) [] 0).n)))]]):=mm
    have l1:=AStore.lt_of_get s1
    have l2:=AStore.lt_of_get s2
    have l3:=AStore.lt_of_get s3
    have l4:=AStore.lt_of_get s4
    have nt1:¬ (τ.next=1):=by omega
    have nt2:¬ (τ.next=2):=by omega
    have nt3:¬ (τ.next=3):=by omega
    have nt4:¬ (τ.next=4):=by omega
    have np1:¬ (τ.next+1=1):=by omega
    have np2:¬ (τ.next+1=2):=by omega
    have np3:¬ (τ.next+1=3):=by omega
    have np4:¬ (τ.next+1=4):=by omega
    clear mm
    generalize (evG fs (gval gl) 1000).1 (.mk k nm i zs) [] 0=p at mm' hrz ⊢
    by_cases he:p.e=0
    ·rw [if_pos he]
     (repeat' first|(refine vy ?_ ?_<;>rintro ⟨hd,hq⟩<;>first|(exfalso; omega)|simp -implicitDefEqProofs only [go_sem,hd]|skip)|refine vz ?_|simp -implicitDefEqProofs only [go_sem,s1,l1])
     ((try (refine Z_seq ?_; (try simp -implicitDefEqProofs only [go_sem]))); refine Z_draw (by kernel_rfl) [0,1,2,3,4,5,6,7,8] [(8,255),(7,127),(6,63),(5,1),(4,14),(3,6),(2,2),(1,0),(0,0)] (by kernel_rfl) (by kernel_rfl) ?_)
     simp -implicitDefEqProofs only [go_sem,s1,s2,s3,s4,s12,mm',l1,l2,l3,l4,nt1,nt2,nt3,nt4,np1,np2,np3,np4]
     (repeat' first|(refine vy ?_ ?_<;>rintro ⟨hd,hq⟩<;>first|(exfalso; omega)|simp -implicitDefEqProofs only [go_sem,hd]|skip)|refine vz ?_|simp -implicitDefEqProofs only [go_sem])
     refine run1NG.mono ?_
     rintro _ _ _ ⟨⟨_,rfl⟩,rfl,rfl⟩
     show dRd _ _
     simp -implicitDefEqProofs only [go_sem,s1,s2,s3,s4,l1,l2,l3,l4]
     exact ⟨_,_,rfl,rfl,by rw [hrz]; unfold runG; rw [if_pos he,he]⟩
    ·rw [if_neg he]
     refine (run1PG s12 mm' ⟨_,s1⟩ ⟨_,s2⟩ ⟨_,s3⟩ ⟨_,s4⟩ (by decide) (by decide) (by decide) (by decide) (by decide) (by decide)).mono ?_
     rintro _ _ ρ2 ⟨⟨_,rfl⟩,rfl,q1,q2,q3,q4⟩
     show dRd _ _
     simp -implicitDefEqProofs only [go_sem,q1,q2,q3,q4]
     exact ⟨_,_,rfl,rfl,by rw [hrz]; unfold runG; rw [if_neg he]⟩
theorem two_nm {E E':Ex->Nat->RX} {stop:Int->Bool} {sv:Int} {zs:List Ex} {n:Nat} (h:∀ y∈zs,∀ m,E y m=E' y m):twoG E stop sv zs n=twoG E' stop sv zs n:=by
 rcases zs with _|⟨x,_|⟨y,_|⟨z,r⟩⟩⟩
 ·rfl
 ·rfl
 ·simp only [twoG,h x (by simp),h y (by simp)]
 ·rfl
theorem if_nm {E E':Ex->Nat->RX} {zs:List Ex} {n:Nat} (h:∀ y∈zs,∀ m,E y m=E' y m):ifG E zs n=ifG E' zs n:=by
 rcases zs with _|⟨x,_|⟨y,_|⟨z,_|⟨u,r⟩⟩⟩⟩
 ·rfl
 ·rfl
 ·rfl
 ·simp only [ifG,h x (by simp),h y (by simp),h z (by simp)]
 ·rfl
theorem args_nm {E E':Ex->Nat->RX}:∀ {zs:List Ex} {n:Nat},(∀ y∈zs,∀ m,E y m=E' y m)->argsG E zs n=argsG E' zs n
  | [],_,_=>rfl
  | x :: xs, n, h => by
      simp only [argsG,h x (by simp),args_nm (E:=E) (E':=E') (zs:=xs) fun y hy=>h y (List.mem_cons_of_mem _ hy)]
theorem wh_nm {E E':Ex->Fr->Nat->RX} {A A':List St->Fr->Nat->RS} {x:Ex} {b:List St} (hA:∀ o m,A b o m=A' b o m) (hE:∀ o m,E x o m=E' x o m):∀ (K:Nat) (val:Int) (o:Fr) (n:Nat),whG E A x b K val o n=whG E' A' x b K val o n
 | 0,_,_,_=>rfl
 | K+1,val,o,n=>by simp only [whG,hA,hE,wh_nm hA hE K]
theorem sts_nm {E E' : Ex → Fr → Nat → RX} {A A' : List St → Fr → Nat → RS} (hA : ∀ b, formedSs nameB b = true → ∀ o m, A b o m = A' b o m) (hE : ∀ x, formedB nameB x = true → ∀ o m, E x o m = E' x o m) :
    ∀ (ss:List St),formedSs nameB ss=true->∀ (o:Fr) (made:List ByteArray) (n:Nat),stsG E A ss o made n=stsG E' A' ss o made n
  | [],_,_,_,_=>rfl
  | .mk k nm v b els :: r, h, o, made, n => by
      simp only [formedSs,formedS,Bool.and_eq_true] at h
      obtain ⟨⟨⟨⟨⟨_,hv⟩,_⟩,hb⟩,he⟩,hr⟩:=h
      have hAi:∀ (c:Int) o m,A (if c=0 then els else b) o m=A' (if c=0 then els else b) o m:=fun c o m=>by
        split
        · exact hA _ he o m
        · exact hA _ hb o m
      simp only [stsG,hE v hv,hAi,wh_nm (hA b hb) (hE v hv),sts_nm hA hE r hr]
theorem evG_nm {l : List Fc} {g g' : ByteArray → Int} (hg : ∀ s, nameB s = true → g s = g' s) (hl : ∀ f ∈ l, formedF nameB f = true) : ∀ N,
    (∀ x,formedB nameB x=true->∀ o n,(evG l g N).1 x o n=(evG l g' N).1 x o n)/\(∀ ss,formedSs nameB ss=true->∀ o n,(evG l g N).2 ss o n=(evG l g' N).2 ss o n):=by
  have hfc:∀ nm,formedSs nameB (fcD l nm).body=true:=fun nm=>by
    unfold fcD fcOf
    cases h:l.find? fun f=>decide (f.nm=nm) with
    | none=>rfl
    | some f=>
      have:=hl f (List.mem_of_find?_eq_some h)
      unfold formedF at this
      simp only [Bool.and_eq_true] at this
      exact this.2
  have key : ∀ (E E' : Ex → Fr → Nat → RX) (A A' : List St → Fr → Nat → RS), (∀ x, formedB nameB x = true → ∀ o m, E x o m = E' x o m) → (∀ b, formedSs nameB b = true → ∀ o m, A b o m = A' b o m) →
      ∀ x,formedB nameB x=true->∀ o n,expG l g E A x o n=expG l g' E' A' x o n:=by
    rintro E E' A A' hE hA ⟨k,nm,i,zs⟩ h o n
    simp only [formedB,Bool.and_eq_true] at h
    obtain ⟨⟨⟨_,hn⟩,_⟩,hz⟩:=h
    have hz:∀ y∈zs,formedB nameB y=true:=by rw [formedBs_all,List.all_eq_true] at hz; exact hz
    have h1:∀ y∈zs,∀ m,(fun x n=>E x o n) y m=(fun x n=>E' x o n) y m:=fun y hy m=>hE y (hz y hy) o m
    simp only [expG,two_nm h1,if_nm h1,args_nm h1,hA _ (hfc nm)]
    by_cases hk:k=2
    · rw [if_pos (.inl hk)] at hn
      simp only [hg nm hn]
    · simp only [if_neg hk]
  intro N
  induction N with
  | zero=>exact ⟨key (fun _ _ n=>⟨0,0,n⟩) (fun _ _ n=>⟨0,0,n⟩) (fun _ o n=>⟨o,0,false,0,n⟩) (fun _ o n=>⟨o,0,false,0,n⟩) (fun _ _ _ _=>rfl) (fun _ _ _ _=>rfl),fun ss h o n=>sts_nm (fun _ _ _ _=>rfl) (fun _ _ _ _=>rfl) ss h o [] n⟩
  | succ N ih=>exact ⟨key _ _ _ _ ih.1 ih.2,fun ss h o n=>sts_nm ih.2 ih.1 ss h o [] n⟩
mutual
def noCall:Ex->Bool
 | .mk k _ _ zs=>!decide (k=19) && noCalls zs
def noCalls:List Ex->Bool
 | []=>true
 | x::xs=>noCall x && noCalls xs
end
theorem noCalls_mem:∀ {l:List Ex},noCalls l=true->∀ x∈l,noCall x=true
  | [],_,x,hx=>by cases hx
  | y :: l, h, x, hx => by
      simp only [noCalls,Bool.and_eq_true] at h
      rcases List.mem_cons.1 hx with rfl|hx
      · exact h.1
      · exact noCalls_mem h.2 x hx
theorem two_n {E:Ex->Nat->RX} {stop:Int->Bool} {sv:Int} {zs:List Ex} {n:Nat} (h:∀ y∈zs,∀ m,(E y m).n<=m+nodesE y):(twoG E stop sv zs n).n<=n+nodesEs zs:=by
 rcases zs with _|⟨x,_|⟨y,_|⟨z,r⟩⟩⟩
 ·simp [twoG]
 ·simp [twoG]
 ·have h1:=h x (by simp) n
  have h2:=h y (by simp) (E x n).n
  simp only [twoG,nodesEs]
  repeat' split
  all_goals ((try dsimp only); omega)
 ·simp [twoG]
theorem if_n {E:Ex->Nat->RX} {zs:List Ex} {n:Nat} (h:∀ y∈zs,∀ m,(E y m).n<=m+nodesE y):(ifG E zs n).n<=n+nodesEs zs:=by
 rcases zs with _|⟨x,_|⟨y,_|⟨z,_|⟨u,r⟩⟩⟩⟩
 ·simp [ifG]
 ·simp [ifG]
 ·simp [ifG]
 ·have h1:=h x (by simp) n
  have h2:=h y (by simp) (E x n).n
  have h3:=h z (by simp) (E x n).n
  simp only [ifG,nodesEs]
  repeat' split
  all_goals ((try dsimp only); omega)
 ·simp [ifG]
theorem args_n {E:Ex->Nat->RX}:∀ {zs:List Ex} {n:Nat},(∀ y∈zs,∀ m,(E y m).n<=m+nodesE y)->(argsG E zs n).2.2<=n+nodesEs zs
  | [],n,_=>by simp [argsG,nodesEs]
  | x :: xs, n, h => by
      have h1:=h x (by simp) n
      have h2:=args_n (E:=E) (zs:=xs) (n:=(E x n).n) fun y hy=>h y (List.mem_cons_of_mem _ hy)
      simp only [argsG,nodesEs]
      split<;>((try dsimp only); omega)
theorem evG_n {l:List Fc} {g:ByteArray->Int}:∀ N x,noCall x=true->∀ o n,((evG l g N).1 x o n).n<=n+nodesE x:=by
  have key : ∀ (E : Ex → Fr → Nat → RX) (A : List St → Fr → Nat → RS), (∀ x, noCall x = true → ∀ o m, (E x o m).n ≤ m + nodesE x) →
      ∀ x,noCall x=true->∀ o n,(expG l g E A x o n).n<=n+nodesE x:=by
    rintro E A hE ⟨k,nm,i,zs⟩ h o n
    simp only [noCall,Bool.and_eq_true,Bool.not_eq_true',decide_eq_false_iff_not] at h
    obtain ⟨hk,hz⟩:=h
    have h1:∀ y∈zs,∀ m,((fun x n=>E x o n) y m).n<=m+nodesE y:=fun y hy m=>hE y (noCalls_mem hz y hy) o m
    have a1:=two_n (stop:=fun v=>decide (v=0)) (sv:=0) (n:=n+1) h1
    have a2:=two_n (stop:=fun v=>!decide (v=0)) (sv:=1) (n:=n+1) h1
    have a3:=if_n (n:=n+1) h1
    have a4:=args_n (n:=n+1) h1
    simp only [expG,nodesE,if_neg hk]
    split
    · (try dsimp only); omega
    split
    · (try dsimp only); omega
    split
    · (try dsimp only); omega
    split
    · omega
    split
    · omega
    split
    · omega
    split<;>((try dsimp only); omega)
  intro N
  induction N with
  | zero=>exact key _ _ (fun _ _ _ m=>by dsimp only; omega)
  | succ N ih=>exact key _ _ ih
theorem gval_app {nn s:ByteArray} {c:Int} (h:s≠nn):∀ gl:List (ByteArray×Int),gval (gl++[(nn,c)]) s=gval gl s
 | []=>by simp only [List.nil_append,gval,if_neg (Ne.symm h)]
 | p::gl=>by simp only [List.cons_append,gval,gval_app h gl]
def quadA (q:Int×Int×Int×Bool):AVal:=.tuple [(.sc (.int .i64 (q.1))),(.sc (.int .i64 (q.2.1))),(.sc (.int .i64 (q.2.2.1))),(.sc (.bool (q.2.2.2)))]
def qOf (p:RX):Int×Int×Int×Bool:=(if p.e=0 then p.v else 0,p.n,p.e,false)
def run4 (x:Ex) (ns:List ByteArray) (vs:List Int) (fs:List Fc):Int×Int×Int×Bool:=
 if ns.length≠vs.length then (0,0,2,true) else
 if goodB (ns.zip vs)=false then (0,0,2,true) else
 if expP nameB x ns fs≠0 then (0,0,expP nameB x ns fs,true) else qOf ((evG fs (gval (ns.zip vs)) 1000).1 x [] 0)
theorem runAll_quad {x:Ex} {ns:List ByteArray} {vs:List Int} {fs:List Fc}:runAll x ns vs fs=quadA (run4 x ns vs fs):=by
 unfold runAll run4
 split
 ·rfl
 rename_i h
 have hl:ns.length=vs.length:=by omega
 have e:(ns.zip vs).map (·.1)=ns:=List.map_fst_zip (by omega)
 unfold runZ
 rw [e]
 split
 ·rfl
 split
 ·rfl
 ·rfl
theorem run4_laws {x:Ex} {ns:List ByteArray} {vs:List Int} {fs:List Fc} {q:Int×Int×Int×Bool} (hq:run4 x ns vs fs=q):
  (-2147483648<=q.1/\q.1<=2147483648)/\(0<=q.2.1/\q.2.1<=1000)/\(q.2.2.1≠0->q.1=0)/\(q.2.2.2=true->q.2.1=0/\q.2.2.1≠0)/\
   (q.2.2.2=false->(q.2.2.1=101->q.2.1=1000)/\1<=q.2.1/\(noCall x=true->q.2.1<=nodesE x)):=by
 subst hq
 unfold run4
 split
 ·exact ⟨⟨(by decide:(-2147483648:Int)<=0),(by decide:(0:Int)<=2147483648)⟩,⟨(by decide:(0:Int)<=0),(by decide:(0:Int)<=1000)⟩,fun _=>rfl,fun _=>⟨rfl,by decide⟩,fun h=>by cases h⟩
 split
 ·exact ⟨⟨(by decide:(-2147483648:Int)<=0),(by decide:(0:Int)<=2147483648)⟩,⟨(by decide:(0:Int)<=0),(by decide:(0:Int)<=1000)⟩,fun _=>rfl,fun _=>⟨rfl,by decide⟩,fun h=>by cases h⟩
 split
 ·rename_i he
  exact ⟨⟨(by decide:(-2147483648:Int)<=0),(by decide:(0:Int)<=2147483648)⟩,⟨(by decide:(0:Int)<=0),(by decide:(0:Int)<=1000)⟩,fun _=>rfl,fun _=>⟨rfl,he⟩,fun h=>by cases h⟩
 rename_i hgd he
 have hgd:goodB (ns.zip vs)=true:=by simpa using hgd
 obtain ⟨h1,h2,h3,_⟩:=expP_ok (x:=x) (g:=ns) (l:=fs) (by omega)
 have hb:=(evG_bound (gval_inG (goodB_iff.1 hgd).2) (fun f hf=>(h3 f hf).2.2) 1000).1 x [] 0 h2 (fun p hp=>by cases hp) (by decide) (by decide)
 have hn:=evG_n (l:=fs) (g:=gval (ns.zip vs)) 1000 x
 revert hb hn
 generalize (evG fs (gval (ns.zip vs)) 1000).1 x=F
 intro hb hn
 have hn:=fun h=>hn h [] 0
 generalize F [] 0=p at hb hn
 rcases hb with ⟨a,_⟩|⟨_,b1,b2,b3,b4⟩
 ·cases a
 unfold qOf
 refine ⟨?_,⟨by dsimp only; omega,by dsimp only; omega⟩,fun h=>if_neg h,fun h=>(by cases h),fun _=>⟨fun h=>by have:=b4 h; dsimp only; omega,by dsimp only; omega,fun h=>by have:=hn h; dsimp only; omega⟩⟩
 dsimp only
 split
 ·rename_i h; exact b3 h
 ·exact ⟨by decide,by decide⟩
theorem run4_more {x:Ex} {ns:List ByteArray} {vs:List Int} {fs:List Fc} {nn:ByteArray} {c:Int} (hc:-2147483648<=c/\c<=2147483648) (hnn:nameB nn=false) (h:nn ∉ ns):run4 x (ns++[nn]) (vs++[c]) fs=run4 x ns vs fs:=by
 unfold run4
 by_cases hl:ns.length=vs.length
 ·have hz:(ns++[nn]).zip (vs++[c])=ns.zip vs++[(nn,c)]:=by rw [List.zip_append hl]; rfl
  have e:(ns.zip vs).map (·.1)=ns:=List.map_fst_zip (by omega)
  have hs:∀ s,nameB s=true->s≠nn:=fun s hs hh=>by rw [hh,hnn] at hs; cases hs
  have hg:goodB (ns.zip vs++[(nn,c)])=goodB (ns.zip vs):=by
   rw [Bool.eq_iff_iff,goodB_snoc]
   exact ⟨fun h=>h.1,fun h'=>⟨h',by rw [e]; exact h,hc⟩⟩
  have hP:expP nameB x (ns++[nn]) fs=expP nameB x ns fs:=expP_nm (fun s hn=>by simp [hs s hn])
  have hlen:(ns++[nn]).length=(vs++[c]).length:=by simp [hl]
  rw [if_neg (not_not_intro hlen),if_neg (not_not_intro hl),hz,hg,hP]
  split
  ·rfl
  split
  ·rfl
  rename_i he
  obtain ⟨h1,_,h3,_⟩:=expP_ok (x:=x) (g:=ns) (l:=fs) (by omega)
  rw [(evG_nm (fun s hn=>gval_app (hs s hn) _) (fun f hf=>(h3 f hf).1) 1000).1 x h1]
 ·rw [if_pos (by simp; omega),if_pos hl]
set_option linter.unusedSectionVars false
theorem zip_fst {ns:List ByteArray} {vs:List Int} (h:ns.length=vs.length):((ns.zip vs).map fun p=>sA p.1)=ns.map sA:=by
 rw [show (fun p:ByteArray×Int=>sA p.1)=sA ∘ (·.1) from rfl,<-List.map_map,List.map_fst_zip (by omega)]
theorem zip_snd {ns:List ByteArray} {vs:List Int} (h:ns.length=vs.length):((ns.zip vs).map fun p=>((.sc (.int .i64 (p.2))):AVal))=vs.map fun v=>(.sc (.int .i64 (v))):=by
 rw [show (fun p:ByteArray×Int=>((.sc (.int .i64 (p.2))):AVal))=(fun v=>(.sc (.int .i64 (v)))) ∘ (·.2) from rfl,<-List.map_map,List.map_snd_zip (by omega)]
section
variable {w:WD} {x:Ex} {X N V L:AVal} {ns:List ByteArray} {vs:List Int} {fs:List Fc} {els:List AVal} (hX:IsEx x X) (hxb:nodesE x<=1099511627776) (hN:IsD 1 N (ns.map sA)) (hV:IsD 1 V (vs.map fun v=>(.sc (.int .i64 (v)))))
 (hl:ns.length<=1000000) (hlv:vs.length<=1000000) (hL:IsD 3 L els) (hF:IsFcs fs els) (hfl:els.length<=1000000) (hfb:nodesF fs<=1099511627776)
include hX hxb hN hV hl hlv hL hF hfl hfb
theorem runAllC:GivesV (EE w) 19 [X,N,V,L] (quadA (run4 x ns vs fs)):=by
 rw [<-runAll_quad]
 by_cases hlen:ns.length=vs.length
 ·intro σ
  have hz:(ns.zip vs).map (·.1)=ns:=List.map_fst_zip (by omega)
  have hr:=runZC (w:=w) (gl:=ns.zip vs) hX (by rw [zip_fst hlen]; exact hN) (by rw [zip_snd hlen]; exact hV) (by rw [List.length_zip]; omega) hL hF hfl (fs:=fs) (fun _ h=>by
   obtain ⟨_,a,b,c⟩:=expP_ok h
   exact ⟨a,hF,fun f hf=>(b f hf).2.1,fun f hf=>(b f hf).2.2,c⟩) (fun w=>by rw [hz]; exact tExpTC hX hxb hL hF (by omega) hfb hN (by omega)) σ
  refine hr.mono ?_
  rintro e σ' ⟨rfl,v,rfl,rfl⟩
  unfold runAll
  rw [if_neg (not_not_intro hlen)]
  exact ⟨rfl,rfl⟩
 ·unfold runAll
  rw [if_pos hlen]
  have hNn:=fun σ:AStore=>hN.lenN (by simp) (n:=ns.length) (σ:=σ)
  have hVn:=fun σ:AStore=>hV.lenN (by simp) (n:=vs.length) (σ:=σ)
  have hne:¬ ((ns.length:Int)=vs.length):=by omega
  refine GivesV.of (fun _=>.sc _) (.cons _ _ hX.wf (.cons _ _ (hN.wf (wf_sA _)) (.cons _ _ (hV.wf (WFs.map fun _=>.sc _)) (.cons _ _ (hL.wf hF.wf) .nil)))) 2 ?_
  obtain ⟨k,nm,i,zs⟩:=x
  simp only [IsEx] at hX
  obtain ⟨S,es0,rfl,hS,_⟩:=hX
  have kS:=hS.fit
  have cS:=hS.cells
  have iS:=hS.isCell
  refine ot_19 rfl rfl rfl (by decide) ?_
  refine Top_seq0 (E:=EE ⟨w.w,[]⟩) (fn:=Tryz.f19) rfl rfl (Z_ofV ?_)
  simp -implicitDefEqProofs only [go_sem,kS,cS,iS]
  refine Top_seq0 (E:=EE ⟨w.w,[]⟩) (fn:=Tryz.f19) rfl rfl (Z_ofV ?_)
  (repeat' first|(refine vy ?_ ?_<;>rintro ⟨hd,hq⟩<;>first|(exfalso; omega)|simp -implicitDefEqProofs only [go_sem,hd]|skip)|refine vz ?_|simp -implicitDefEqProofs only [go_sem,hNn,hVn,dcf hne])
  rw [show Tryz.f19.results.toList=[.cell 8 2,.cell 9 3,.cell 10 32,.cell 11 4] from rfl]
  show dRd _ _
  simp -implicitDefEqProofs only [go_sem]
  exact ⟨_,rfl,rfl⟩
theorem valueGC:GivesV (EE w) 7 [X,N,V,L] (.tuple [(.sc (.int .i64 ((run4 x ns vs fs).1))),(.sc (.int .i64 ((run4 x ns vs fs).2.2.1)))]):=by
 have hrun:=runAllC (w:=⟨w.w,[]⟩) hX hxb hN hV hl hlv hL hF hfl hfb
 refine GivesV.of (fun _=>.sc _) (.cons _ _ hX.wf (.cons _ _ (hN.wf (wf_sA _)) (.cons _ _ (hV.wf (WFs.map fun _=>.sc _)) (.cons _ _ (hL.wf hF.wf) .nil)))) 2 ?_
 generalize run4 x ns vs fs=q at hrun ⊢
 obtain ⟨k,nm,i,zs⟩:=x
 simp only [IsEx] at hX
 obtain ⟨S,es0,rfl,hS,_⟩:=hX
 have kS:=hS.fit
 have cS:=hS.cells
 have iS:=hS.isCell
 refine of_7 rfl rfl rfl (by kernel_rfl) ?_
 simp -implicitDefEqProofs only [go_sem,kS,cS,iS]
 refine hrun.use ?_
 unfold quadA
 (repeat' first|(refine vy ?_ ?_<;>rintro ⟨hd,hq⟩<;>first|(exfalso; omega)|simp -implicitDefEqProofs only [go_sem,hd]|skip)|refine vz ?_|simp -implicitDefEqProofs only [go_sem])
 exact ⟨_,rfl,rfl⟩
theorem stepsGC:GivesV (EE w) 9 [X,N,V,L] (.tuple [(.sc (.int .i64 (if (run4 x ns vs fs).2.2.2=true then 0 else (run4 x ns vs fs).2.1))),(.sc (.int .i64 (if (run4 x ns vs fs).2.2.2=true then (run4 x ns vs fs).2.2.1 else 0)))]):=by
 have hrun:=runAllC (w:=⟨w.w,[]⟩) hX hxb hN hV hl hlv hL hF hfl hfb
 refine GivesV.of (fun _=>.sc _) (.cons _ _ hX.wf (.cons _ _ (hN.wf (wf_sA _)) (.cons _ _ (hV.wf (WFs.map fun _=>.sc _)) (.cons _ _ (hL.wf hF.wf) .nil)))) 2 ?_
 generalize run4 x ns vs fs=q at hrun ⊢
 obtain ⟨k,nm,i,zs⟩:=x
 simp only [IsEx] at hX
 obtain ⟨S,es0,rfl,hS,_⟩:=hX
 have kS:=hS.fit
 have cS:=hS.cells
 have iS:=hS.isCell
 obtain ⟨q1,q2,q3,q4⟩:=q
 refine of_9 rfl rfl rfl (by kernel_rfl) ?_
 simp -implicitDefEqProofs only [go_sem,kS,cS,iS]
 refine hrun.use ?_
 unfold quadA
 simp -implicitDefEqProofs only [go_sem]
 cases q4 with
 | true=>
  (repeat' first|(refine vy ?_ ?_<;>rintro ⟨hd,hq⟩<;>first|(exfalso; omega)|simp -implicitDefEqProofs only [go_sem,hd]|skip)|refine vz ?_|simp -implicitDefEqProofs only [go_sem])
  exact ⟨_,rfl,rfl⟩
 | false=>
  (repeat' first|(refine vy ?_ ?_<;>rintro ⟨hd,hq⟩<;>first|(exfalso; omega)|simp -implicitDefEqProofs only [go_sem,hd]|skip)|refine vz ?_|simp -implicitDefEqProofs only [go_sem])
  exact ⟨_,rfl,rfl⟩
end
/-- Value, of names and values that lie in memory. -/
theorem valueGL {w:WD} {σ:AStore} {x:Ex} {X L:AVal} {ns:List ByteArray} {vs:List Int} {fs:List Fc} {els:List AVal} {b1 b2 l1 l2:Nat} (hX:IsEx x X) (hxb:nodesE x<=1099511627776)
  (h1:σ.get b1=some (.cells 1 (ns.map sA))) (h2:σ.get b2=some (.cells 1 (vs.map fun v=>(.sc (.int .i64 (v)))))) (e1:l1=ns.length) (e2:l2=vs.length)
  (hl:ns.length<=1000000) (hlv:vs.length<=1000000) (hL:IsD 3 L els) (hF:IsFcs fs els) (hD:Dats els) (hfl:els.length<=1000000) (hfb:nodesF fs<=1099511627776):
  ACalls (EE w) 7 [X,.slice b1 0 l1,.slice b2 0 l2,L] σ fun e σ'=>σ'=σ/\e=.ret (.tuple [(.sc (.int .i64 ((run4 x ns vs fs).1))),(.sc (.int .i64 ((run4 x ns vs fs).2.2.1)))]):=by
 subst e1; subst e2
 have hd1:Dats (ns.map sA):=by
  clear h1 hl
  induction ns with
  | nil=>exact .nil
  | cons p l ih=>exact .cons _ _ (.sc _) ih
 have hd2:Dats (vs.map fun v=>((.sc (.int .i64 (v))):AVal)):=by
  clear h2 hlv
  induction vs with
  | nil=>exact .nil
  | cons p l ih=>exact .cons _ _ (.sc _) ih
 obtain ⟨N1,f1⟩:=Dat.frz (σ:=σ.only [b1,b2]) hX.dat
 obtain ⟨N2,f2⟩:=Dats.frz (σ:=σ.only [b1,b2]) hd1
 obtain ⟨N3,f3⟩:=Dats.frz (σ:=σ.only [b1,b2]) hd2
 obtain ⟨N4,f4⟩:=Dat.frz (σ:=σ.only [b1,b2]) (hL.dat hD)
 have s1:Abs.frz (σ.only [b1,b2]) (N1+N2+N3+N4+1) (.slice b1 0 ns.length)=some (.data 1 false (ns.map sA)):=by
  rw [frz_slice,only_mem (by simp) h1,frzS_cells (by simp),List.drop_zero,List.take_of_length_le (by simp),f2 _ (by omega)]; rfl
 have s2:Abs.frz (σ.only [b1,b2]) (N1+N2+N3+N4+1) (.slice b2 0 vs.length)=some (.data 1 false (vs.map fun v=>(.sc (.int .i64 (v))))):=by
  rw [frz_slice,only_mem (by simp) h2,frzS_cells (by simp),List.drop_zero,List.take_of_length_le (by simp),f3 _ (by omega)]; rfl
 have hC:=valueGC (w:=w) hX hxb (N:=.data 1 false (ns.map sA)) (.inr ⟨false,rfl⟩) (V:=.data 1 false (vs.map fun v=>(.sc (.int .i64 (v))))) (.inr ⟨false,rfl⟩) hl hlv hL hF hfl hfb
 refine (ACalls.pureT (fun _=>.sc _) (N:=2) (hC empty) ?_ σ (bs:=[b1,b2]) (M:=N1+N2+N3+N4+1) ?_).mono ?_
 ·rintro e σ0 ⟨rfl,rfl⟩
  exact ⟨_,rfl,rfl⟩
 ·rw [mapO_cons',mapO_cons',mapO_cons',mapO_cons',mapO_nil',f1 _ (by omega),s1,s2,f4 _ (by omega)]; rfl
 ·rintro e σ' ⟨h1,e0,σ0,⟨rfl,rfl⟩,h3⟩
  cases h3
  exact ⟨h1,rfl⟩
set_option linter.unusedSectionVars false
def nodesI (x:Ex):Int:=if noCall x=true then nodesE x else -1
def nodesL (xs:List Ex) (n:Int):Int:=if noCalls xs=true then n+nodesEs xs else -1
theorem nodesL_cons {x:Ex} {xs:List Ex} {n:Int}:nodesL (x::xs) n=if noCall x=true then nodesL xs (n+nodesE x) else -1:=by
 unfold nodesL
 simp only [noCalls,nodesEs,Bool.and_eq_true]
 by_cases h1:noCall x=true<;>by_cases h2:noCalls xs=true<;>simp [h1,h2]
 omega
theorem nodesStep {k i:Int} {nm:ByteArray} {xs:List Ex} {w:WD} {v:AVal} (h:IsEx (.mk k nm i xs) v) (hb:nodesE (.mk k nm i xs)<=1099511627776)
  (rec1:∀ y∈xs,∀ (w:WD) (v:AVal),IsEx y v->nodesE y<=1099511627776->GivesV (EE w) 12 [v] (.sc (.int .i64 (nodesI y)))):
  GivesV (EE w) 12 [v] (.sc (.int .i64 (nodesI (.mk k nm i xs)))):=by
 have hwf:=h.wf
 simp only [IsEx] at h
 obtain ⟨S,els,rfl,hS,hx,hk,hi,hn,hl⟩:=h
 have hlen:=hx.len
 have hSn:=fun σ:AStore=>hS.lenN hlen (σ:=σ)
 have kS:=hS.fit
 have cS:=hS.cells
 have iS:=hS.isCell
 simp only [nodesE] at hb
 refine GivesV.of (fun _=>.sc _) (.cons _ _ hwf .nil) 1 ?_
 refine of_12 rfl rfl rfl (by kernel_rfl) ?_
 simp -implicitDefEqProofs only [go_sem,kS,cS,iS]
 have g0:(empty.alloc (.cells 4 [.agg [(.sc (.int .i64 (k))),.sc (.string nm),(.sc (.int .i64 (i))),S]])).get 0=some (.cells 4 [.agg [(.sc (.int .i64 (k))),.sc (.string nm),(.sc (.int .i64 (i))),S]]):=by rw [AStore.get_alloc]; rfl
 generalize empty.alloc (.cells 4 [.agg [(.sc (.int .i64 (k))),.sc (.string nm),(.sc (.int .i64 (i))),S]])=τ at g0 ⊢
 (repeat' first|(refine vy ?_ ?_<;>rintro ⟨hd,hq⟩<;>first|(exfalso; omega)|simp -implicitDefEqProofs only [go_sem,hd]|skip)|refine vz ?_|simp -implicitDefEqProofs only [go_sem,g0])
 refine vlp (ι:=Int×Nat) (fun p=>[(1,.ptr 0 0 0),(2,(.sc (.int .i64 (0)))),(3,(.sc (.int .i64 (p.1)))),(4,(.sc (.int .i64 (p.2))))]) (fun p τ=>p.2<=xs.length/\τ.get 0=some (.cells 4 [.agg [(.sc (.int .i64 (k))),.sc (.string nm),(.sc (.int .i64 (i))),S]])/\1<=p.1/\p.1+nodesEs (xs.drop p.2)<=1099511627776/\nodesL xs 1=nodesL (xs.drop p.2) p.1) (fun p=>xs.length - p.2) (fun _=>rfl) (1,0) ?_ ?_ ?_
 ·(repeat' (first|exact trivial|refine ⟨rfl,?_⟩))
 ·exact ⟨Nat.zero_le _,g0,by dsimp only; omega,by dsimp only; simp only [List.drop_zero]; omega,rfl⟩
 clear g0
 rintro ⟨r,j⟩ τ ⟨hj,g0,hr,hrb,h0⟩
 simp only at hj hr h0 hrb
 simp -implicitDefEqProofs only [go_sem,g0,hSn]
 ((first|refine vz2 ?_ ?_|refine vz3 ?_ ?_)<;>intro hlt)
 ·obtain ⟨x,hx1⟩:∃ x,xs[j]?=some x:=⟨xs[j]'(by omega),by simp⟩
  obtain ⟨e,he,hxe⟩:=hx.at hx1
  obtain ⟨d1,d2,d3⟩:=hxe.isA.facts
  have dc:=hxe.cellsOk
  have hw:=wrapS (i:=j) (by omega)
  have hd:xs.drop j=x::xs.drop (j+1):=by
   obtain ⟨h1,h2⟩:=List.getElem?_eq_some_iff.1 hx1
   rw [List.drop_eq_getElem_cons h1,h2]
  rw [hd] at h0 hrb
  rw [nodesL_cons] at h0
  simp only [nodesEs] at hrb
  have hpos:=nodesE_pos x
  (repeat' first|(refine vy ?_ ?_<;>rintro ⟨hd,hq⟩<;>first|(exfalso; omega)|simp -implicitDefEqProofs only [go_sem,hd]|skip)|refine vz ?_|simp -implicitDefEqProofs only [go_sem,g0,hSn,kS,cS,iS,hS.idx he,d1,d2,d3,dc])
  refine (rec1 x (List.mem_of_getElem? hx1) _ e hxe (by omega)).use ?_
  unfold nodesI
  by_cases hc:noCall x=true
  ·rw [if_pos hc] at h0 ⊢
   have hn:¬ ((nodesE x:Int) < 0):=by omega
   have hw2:IntKind.i64.wrap (r+(nodesE x:Int))=r+nodesE x:=wrap64 (by omega) (by omega)
   (repeat' first|(refine vy ?_ ?_<;>rintro ⟨hd,hq⟩<;>first|(exfalso; omega)|simp -implicitDefEqProofs only [go_sem,hd]|skip)|refine vz ?_|simp -implicitDefEqProofs only [go_sem,dcf hn,hw2,hw])
   exact ⟨(r+nodesE x,j+1),by dsimp only; omega,⟨by dsimp only; omega,g0,by dsimp only; omega,by dsimp only; omega,h0⟩,by (repeat' (first|exact trivial|refine ⟨rfl,?_⟩))⟩
  ·rw [if_neg hc] at h0 ⊢
   have hres:¬ noCall (.mk k nm i xs)=true:=by
    intro h1
    simp only [noCall,Bool.and_eq_true] at h1
    unfold nodesL at h0
    rw [if_pos h1.2] at h0
    omega
   rw [if_neg hres]
   (repeat' first|(refine vy ?_ ?_<;>rintro ⟨hd,hq⟩<;>first|(exfalso; omega)|simp -implicitDefEqProofs only [go_sem,hd]|skip)|refine vz ?_|simp -implicitDefEqProofs only [go_sem])
   exact ⟨_,rfl,rfl⟩
 ·obtain rfl:j=xs.length:=by omega
  rw [List.drop_length] at h0
  have h1:nodesL xs 1=r:=by rw [h0]; simp [nodesL,noCalls,nodesEs]
  have hcs:noCalls xs=true:=by
   rcases Bool.eq_false_or_eq_true (noCalls xs) with h2|h2
   ·exact h2
   ·unfold nodesL at h1
    rw [if_neg (by rw [h2]; decide)] at h1
    omega
  have hr2:r=1+nodesEs xs:=by
   unfold nodesL at h1
   rw [if_pos hcs] at h1
   exact h1.symm
  by_cases h19:k=19
  ·have hres:¬ noCall (.mk k nm i xs)=true:=by simp [noCall,h19]
   unfold nodesI
   rw [if_neg hres]
   (repeat' first|(refine vy ?_ ?_<;>rintro ⟨hd,hq⟩<;>first|(exfalso; omega)|simp -implicitDefEqProofs only [go_sem,hd]|skip)|refine vz ?_|simp -implicitDefEqProofs only [go_sem,g0,kS,cS,iS,dct h19])
   exact ⟨_,rfl,rfl⟩
  ·have hres:noCall (.mk k nm i xs)=true:=by simp [noCall,h19,hcs]
   unfold nodesI
   rw [if_pos hres]
   (repeat' first|(refine vy ?_ ?_<;>rintro ⟨hd,hq⟩<;>first|(exfalso; omega)|simp -implicitDefEqProofs only [go_sem,hd]|skip)|refine vz ?_|simp -implicitDefEqProofs only [go_sem,g0,kS,cS,iS,dcf h19])
   exact ⟨_,rfl,by simp only [nodesE]; rw [hr2]; simp; rfl⟩
theorem nodesC:∀ {x:Ex} {w:WD} {v:AVal},IsEx x v->nodesE x<=1099511627776->GivesV (EE w) 12 [v] (.sc (.int .i64 (nodesI x)))
 | .mk _ _ _ xs,_,_,h,h1=>nodesStep h h1 fun x hx _ _ h h1=>nodesC (x:=x) h h1
termination_by x=>sizeOf x
decreasing_by have:=List.sizeOf_lt_of_mem hx; simp only [Ex.mk.sizeOf_spec]; omega
def beyond10 (x:Ex) (g:List ByteArray) (vs:List Int) (l:List Fc):Bool:=decide (partsE x 5000 < 0) || (longB g 200 || (decide ((200:Int) < vs.length) || greatF 5000 l 5000))
section
variable {w:WD} {x:Ex} {X N V L:AVal} {ns:List ByteArray} {vs:List Int} {fs:List Fc} {els:List AVal} (hX:IsEx x X) (hN:IsD 1 N (ns.map sA)) (hV:IsD 1 V (vs.map fun v=>(.sc (.int .i64 (v)))))
 (hl:ns.length<=281474976710656) (hs:∀ s∈ns,s.size<=281474976710656) (hL:IsD 3 L els) (hF:IsFcs fs els) (hfl:els.length<=281474976710656)
include hX hN hV hl hs hL hF hfl
theorem beyond10C:GivesV (EE w) 6 [X,.agg [N,V],L] (.sc (.bool (beyond10 x ns vs fs))):=by
 obtain ⟨c1,c2,c3⟩:=hX.isA.facts
 have cc:=hX.cellsOk
 have hfit:X.fit=true:=by obtain ⟨cs,rfl,_⟩:=hX.isA; rfl
 have kN:=hN.fit
 have cN:=hN.cells
 have iN:=hN.isCell
 have kV:=hV.fit
 have cV:=hV.cells
 have iV:=hV.isCell
 have hVn:=fun σ:AStore=>hV.lenN (by simp) (n:=vs.length) (σ:=σ)
 refine GivesV.of (fun _=>.sc _) (.cons _ _ hX.wf (.cons _ _ (.agg _ (.cons _ _ (hN.wf (wf_sA _)) (.cons _ _ (hV.wf (WFs.map fun _=>.sc _)) .nil))) (.cons _ _ (hL.wf hF.wf) .nil))) 2 ?_
 refine of_6 rfl rfl rfl (by kernel_rfl) ?_
 simp -implicitDefEqProofs only [go_sem,c1,c2,c3,cc,hfit,kN,cN,iN,kV,cV,iV]
 (repeat' first|(refine vy ?_ ?_<;>rintro ⟨hd,hq⟩<;>first|(exfalso; omega)|simp -implicitDefEqProofs only [go_sem,hd]|skip)|refine vz ?_|simp -implicitDefEqProofs only [go_sem,c1,c2,c3,cc,hfit,kN,cN,iN,kV,cV,iV])
 refine (greatC hX (by omega) (by omega)).use ?_
 unfold beyond10
 by_cases h1:partsE x 5000 < 0
 ·(repeat' first|(refine vy ?_ ?_<;>rintro ⟨hd,hq⟩<;>first|(exfalso; omega)|simp -implicitDefEqProofs only [go_sem,hd]|skip)|refine vz ?_|simp -implicitDefEqProofs only [go_sem,dct h1])
  exact ⟨_,rfl,rfl⟩
 ·(repeat' first|(refine vy ?_ ?_<;>rintro ⟨hd,hq⟩<;>first|(exfalso; omega)|simp -implicitDefEqProofs only [go_sem,hd]|skip)|refine vz ?_|simp -implicitDefEqProofs only [go_sem,dcf h1,kN,cN,iN,kV,cV,iV])
  refine (longC (most:=200) hN hl hs (by omega)).use ?_
  cases h2:longB ns 200 with
  | true=>
   (repeat' first|(refine vy ?_ ?_<;>rintro ⟨hd,hq⟩<;>first|(exfalso; omega)|simp -implicitDefEqProofs only [go_sem,hd]|skip)|refine vz ?_|simp -implicitDefEqProofs only [go_sem,h2])
   exact ⟨_,rfl,rfl⟩
  | false=>
   by_cases h3:(200:Int) < vs.length
   ·(repeat' first|(refine vy ?_ ?_<;>rintro ⟨hd,hq⟩<;>first|(exfalso; omega)|simp -implicitDefEqProofs only [go_sem,hd]|skip)|refine vz ?_|simp -implicitDefEqProofs only [go_sem,h2,hVn,dct h3,kN,cN,iN,kV,cV,iV])
    exact ⟨_,rfl,rfl⟩
   ·(repeat' first|(refine vy ?_ ?_<;>rintro ⟨hd,hq⟩<;>first|(exfalso; omega)|simp -implicitDefEqProofs only [go_sem,hd]|skip)|refine vz ?_|simp -implicitDefEqProofs only [go_sem,h2,hVn,dcf h3,kN,cN,iN,kV,cV,iV])
    refine (greatFC (most:=5000) hL hF hfl (by omega)).use ?_
    (repeat' first|(refine vy ?_ ?_<;>rintro ⟨hd,hq⟩<;>first|(exfalso; omega)|simp -implicitDefEqProofs only [go_sem,hd]|skip)|refine vz ?_|simp -implicitDefEqProofs only [go_sem])
    exact ⟨_,rfl,rfl⟩
end
theorem beyond10_not {x:Ex} {g:List ByteArray} {vs:List Int} {l:List Fc} (h:beyond10 x g vs l=false):nodesE x<=5000/\g.length<=200/\vs.length<=200/\nodesF l<=5000/\l.length<=5000:=by
 unfold beyond10 at h
 simp only [Bool.or_eq_false_iff,decide_eq_false_iff_not] at h
 obtain ⟨a,b,c,d⟩:=h
 obtain ⟨e1,e2,e3,e4,_⟩:=beyond_not (x:=x) (g:=g) (l:=l) (by
  unfold beyondB
  simp only [Bool.or_eq_false_iff,decide_eq_false_iff_not]
  exact ⟨a,b,d⟩)
 exact ⟨e1,e2,by omega,e3,e4⟩
set_option linter.unusedSectionVars false
def nnB:ByteArray:=⟨#[110,111,116,32,97,32,110,97,109,101]⟩
theorem nnB_no:nameB nnB=false:=by kernel_rfl
theorem app_d0 {σ:AStore} {sz bytes:Nat} {xs:List AVal} (hx:xs≠[]) (hb:xs.length*bytes<=140737488355328) (h1:sz≠0) (h2:bytes≠0):
  aAppend sz bytes (.data sz true []) xs σ=some (.slice σ.next 0 xs.length,σ.alloc (.cells sz xs)):=by
 have hl:¬ xs.length=0:=by cases xs<;>simp_all
 simp only [aAppend,aAppend0,if_neg hl]
 simp [aElems,h1,h2,hb]
/-- A slice that was made from nothing by appending. -/
def Ow2 (σ:AStore) (sz:Nat) (v:AVal) (els:List AVal):Prop:=(els=[]/\v=.data sz true [])\/(els≠[]/\∃ b,v=.slice b 0 els.length/\σ.get b=some (.cells sz els))
theorem Ow2.more {σ:AStore} {sz bytes:Nat} {v:AVal} {els xs:List AVal} (h:Ow2 σ sz v els) (hx:xs≠[]) (hb:(els.length+xs.length)*bytes<=140737488355328) (h1:sz≠0) (h2:bytes≠0) (hc:allCells xs=true):
  ∃ σ',aAppend sz bytes v xs σ=some (.slice σ.next 0 (els.length+xs.length),σ')/\σ'.get σ.next=some (.cells sz (els++xs))/\σ'.next=σ.next+1/\∀ b y,σ.get b=some y->(∀ l,v≠.slice b 0 l)->σ'.get b=some y:=by
 rcases h with ⟨rfl,rfl⟩|⟨he,b,rfl,hg⟩
 ·refine ⟨σ.alloc (.cells sz xs),?_,?_,rfl,fun b y hy _=>get_alloc_old hy⟩
  ·rw [app_d0 hx (by simpa using hb) h1 h2]; simp
  ·simp [AStore.get_alloc]
 ·obtain ⟨σ',a1,a2,a3,a4⟩:=Own.append (.inr ⟨he,b,rfl,hg⟩) hx hb h1 h2 hc
  refine ⟨σ',by rw [a1,List.length_append],?_,a3,a4⟩
  rcases a2 with ⟨h,_⟩|⟨_,b',hb',h⟩
  ·exact absurd h (by simp [hx])
  ·cases hb'; exact h
theorem Ow2.first {σ:AStore} {sz bytes:Nat} {xs:List AVal} (hb:xs.length*bytes<=140737488355328) (h1:sz≠0) (h2:bytes≠0):
  ∃ v' σ',aAppend sz bytes (.data sz true []) xs σ=some (v',σ')/\Ow2 σ' sz v' xs/\σ.next<=σ'.next/\(∀ b y,σ.get b=some y->σ'.get b=some y)/\∀ b l,b < σ.next->v'≠.slice b 0 l:=by
 by_cases hx:xs=[]
 ·subst hx
  exact ⟨_,σ,by simp [aAppend,aAppend0],.inl ⟨rfl,rfl⟩,Nat.le_refl _,fun _ _ h=>h,fun _ _ _ h=>by cases h⟩
 ·refine ⟨_,_,app_d0 hx hb h1 h2,.inr ⟨hx,_,rfl,by simp [AStore.get_alloc]⟩,by rw [alloc_next]; omega,fun b y hy=>get_alloc_old hy,fun b l hb h=>?_⟩
  cases h
  omega
theorem ACalls.use1E {E:Env} {f:FuncId} {args:List AVal} {v:AVal} {σ:AStore} (h:ACalls E f args σ fun e σ'=>σ'=σ/\e=.ret v) {K:SPred} {k:Ev->Bool->AStore->Prop} {e:Ev} {dst:Option Nat} {m:Nat} {recs:List SRec} {q:Bool}
  (hk:sRecs E m σ recs/\k (putE e dst v) false σ):ACalls E f args σ (dRet E m K k recs e dst q σ):=by
 refine h.mono ?_
 rintro en σ' ⟨rfl,rfl⟩
 exact .inr hk
set_option linter.unusedSectionVars false
section
variable {w:WD} {x:Ex} {X N V L:AVal} {ns:List ByteArray} {vs:List Int} {fs:List Fc} {els:List AVal} (hX:IsEx x X) (hN:IsD 1 N (ns.map sA)) (hV:IsD 1 V (vs.map fun v=>(.sc (.int .i64 (v)))))
 (hl:ns.length<=281474976710656) (hs:∀ s∈ns,s.size<=281474976710656) (hL:IsD 3 L els) (hF:IsFcs fs els) (hD:Dats els) (hfl:els.length<=281474976710656)
 (aw:Gives (EE ⟨w.w,[]⟩) 5 [] fun v=>v=(.sc (.bool (true))))
include hX hN hV hl hs hL hF hfl aw hD
theorem boundsC:Gives (EE w) 4 [X,.agg [N,V],L] fun v=>v=(.sc (.bool (true))):=by
 obtain ⟨c1,c2,c3⟩:=hX.isA.facts
 have cc:=hX.cellsOk
 have hfit:X.fit=true:=by obtain ⟨cs,rfl,_⟩:=hX.isA; rfl
 have kN:=hN.fit
 have cN:=hN.cells
 have iN:=hN.isCell
 have kV:=hV.fit
 have cV:=hV.cells
 have iV:=hV.isCell
 refine Gives.of (fun _=>.sc _) (.cons _ _ hX.wf (.cons _ _ (.agg _ (.cons _ _ (hN.wf (wf_sA _)) (.cons _ _ (hV.wf (WFs.map fun _=>.sc _)) .nil))) (.cons _ _ (hL.wf hF.wf) .nil))) 2 ?_
 refine of_4 rfl rfl rfl (by kernel_rfl) ?_
 simp -implicitDefEqProofs only [go_sem,c1,c2,c3,cc,hfit,kN,cN,iN,kV,cV,iV]
 have g0:((empty.alloc (.cells 4 [X])).alloc (.cells 2 [.agg [N,V]])).get 0=some (.cells 4 [X]):=by kernel_rfl
 have g1:((empty.alloc (.cells 4 [X])).alloc (.cells 2 [.agg [N,V]])).get 1=some (.cells 2 [.agg [N,V]]):=by kernel_rfl
 have hn0:((empty.alloc (.cells 4 [X])).alloc (.cells 2 [.agg [N,V]])).next=2:=rfl
 generalize (empty.alloc (.cells 4 [X])).alloc (.cells 2 [.agg [N,V]])=τ at g0 g1 hn0 ⊢
 refine aw.use ?_
 rintro _ rfl
 (repeat' first|(refine vy ?_ ?_<;>rintro ⟨hd,hq⟩<;>first|(exfalso; omega)|simp -implicitDefEqProofs only [go_sem,hd]|skip)|refine vz ?_|simp -implicitDefEqProofs only [go_sem,c1,c2,c3,cc,hfit,kN,cN,iN,kV,cV,iV,g0,g1])
 refine (beyond10C hX hN hV hl hs hL hF hfl).use ?_
 cases hb:beyond10 x ns vs fs with
 | true=>
  (repeat' first|(refine vy ?_ ?_<;>rintro ⟨hd,hq⟩<;>first|(exfalso; omega)|simp -implicitDefEqProofs only [go_sem,hd]|skip)|refine vz ?_|simp -implicitDefEqProofs only [go_sem])
  exact ⟨_,_,rfl,rfl,rfl⟩
 | false=>
  obtain ⟨b1,b2,b3,b4,b5⟩:=beyond10_not hb
  have hfl2:els.length<=1000000:=by have:=hF.len; omega
  have hVal:=fun w:WD=>valueGC (w:=w) hX (by omega) hN hV (by omega) (by omega) hL hF hfl2 (by omega)
  have hSt:=fun w:WD=>stepsGC (w:=w) hX (by omega) hN hV (by omega) (by omega) hL hF hfl2 (by omega)
  (repeat' first|(refine vy ?_ ?_<;>rintro ⟨hd,hq⟩<;>first|(exfalso; omega)|simp -implicitDefEqProofs only [go_sem,hd]|skip)|refine vz ?_|simp -implicitDefEqProofs only [go_sem,c1,c2,c3,cc,hfit,kN,cN,iN,kV,cV,iV,g0,g1])
  refine (hVal _).use ?_
  (repeat' first|(refine vy ?_ ?_<;>rintro ⟨hd,hq⟩<;>first|(exfalso; omega)|simp -implicitDefEqProofs only [go_sem,hd]|skip)|refine vz ?_|simp -implicitDefEqProofs only [go_sem,c1,c2,c3,cc,hfit,kN,cN,iN,kV,cV,iV,g0,g1])
  refine (hSt _).use ?_
  clear hVal hSt
  obtain ⟨l1,l2,l3,l4,l5⟩:=run4_laws (x:=x) (ns:=ns) (vs:=vs) (fs:=fs) rfl
  have hmore:=fun h=>run4_more (x:=x) (ns:=ns) (vs:=vs) (fs:=fs) (nn:=nnB) (c:=5) ⟨by decide,by decide⟩ nnB_no h
  generalize hq:run4 x ns vs fs=q at l1 l2 l3 l4 l5 hmore ⊢
  obtain ⟨q1,q2,q3,q4⟩:=q
  dsimp only at l1 l2 l3 l4 l5 ⊢
  have d1:¬ q1 < -2147483648:=by omega
  have d2:¬ q1 > 2147483648:=by omega
  cases q4 with
  | true=>
   obtain ⟨rfl,h3⟩:=l4 rfl
   obtain rfl:=l3 h3
   simp only [if_true]
   (repeat' first|(refine vy ?_ ?_<;>rintro ⟨hd,hq⟩<;>first|(exfalso; omega)|simp -implicitDefEqProofs only [go_sem,hd]|skip)|refine vz ?_|simp -implicitDefEqProofs only [go_sem,dcf h3])
   exact ⟨_,_,rfl,rfl,rfl⟩
  | false=>
   obtain ⟨m1,m2,m3⟩:=l5 rfl
   simp only [Bool.false_eq_true,if_false]
   have d3:¬ q2 < 0:=by omega
   have d4:¬ q2 > 1000:=by omega
   have d5:¬ q2 < 1:=by omega
   have s1:∀ σ,aSrc 1 N σ=some (ns.map sA):=fun σ=>hN.src
   have s2:∀ σ,aSrc 1 V σ=some (vs.map fun v=>(.sc (.int .i64 (v)))):=fun σ=>hV.src
   obtain ⟨A1,σ1,a1,o1,n1,k1,j1⟩:=Ow2.first (σ:=τ) (sz:=1) (bytes:=16) (xs:=ns.map sA) (by simp; omega) (by decide) (by decide)
   obtain ⟨σ2,a2,o2,n2,k2⟩:=o1.more (bytes:=16) (xs:=[.sc (.string ⟨#[110,111,116,32,97,32,110,97,109,101]⟩)]) (by simp) (by simp; omega) (by decide) (by decide) rfl
   obtain ⟨A3,σ3,a3,o3,n3,k3,j3⟩:=Ow2.first (σ:=σ2) (sz:=1) (bytes:=8) (xs:=vs.map fun v=>(.sc (.int .i64 (v)))) (by simp; omega) (by decide) (by decide)
   obtain ⟨σ4,a4,o4,n4,k4⟩:=o3.more (bytes:=8) (xs:=[(.sc (.int .i64 (5)))]) (by simp) (by simp; omega) (by decide) (by decide) rfl
   have p1:=k4 _ _ (k3 _ _ o2) (fun l=>j3 _ l (by omega))
   have g01:=k1 _ _ g0
   have g11:=k1 _ _ g1
   have g02:=k2 _ _ g01 (fun l=>j1 _ l (by omega))
   have g12:=k2 _ _ g11 (fun l=>j1 _ l (by omega))
   have g03:=k3 _ _ g02
   have g13:=k3 _ _ g12
   have g04:=k4 _ _ g03 (fun l=>j3 _ l (by omega))
   have g14:=k4 _ _ g13 (fun l=>j3 _ l (by omega))
   have hV2:=fun w:WD=>valueGL (w:=w) (σ:=σ4) (ns:=ns++[nnB]) (vs:=vs++[5]) (b1:=σ1.next) (b2:=σ3.next) (l1:=ns.length+1) (l2:=vs.length+1) hX (by omega) (by rw [List.map_append]; exact p1) (by rw [List.map_append]; exact o4) (by simp) (by simp) (by simp; omega) (by simp; omega) hL hF hD hfl2 (by omega)
   have hIn:=fun w:WD=>inC (w:=w) hN (by omega) nnB
   have hcase:(q3=0)\/(q3=101/\q1=0/\q2=1000)\/(q3≠0/\q3≠101/\q1=0):=by
    by_cases h0:q3=0
    ·exact .inl h0
    ·by_cases h1:q3=101
     ·exact .inr (.inl ⟨h1,l3 h0,m1 h1⟩)
     ·exact .inr (.inr ⟨h0,h1,l3 h0⟩)
   rcases hcase with rfl|⟨rfl,rfl,rfl⟩|⟨h0,h1,rfl⟩
   ·(repeat' first|(refine vy ?_ ?_<;>rintro ⟨hd,hq⟩<;>first|(exfalso; omega)|simp -implicitDefEqProofs only [go_sem,hd]|skip)|refine vz ?_|simp -implicitDefEqProofs only [go_sem,c1,c2,c3,cc,hfit,kN,cN,iN,kV,cV,iV,g0,g1,dcf d1,dcf d2,dcf d3,dcf d4,dcf d5])
    refine (nodesC hX (by omega)).use ?_
    unfold nodesI
    by_cases hc:noCall x=true
    ·rw [if_pos hc]
     have e1:(nodesE x:Int)>=0:=by omega
     have e2:=m3 hc
     (repeat' first|(refine vy ?_ ?_<;>rintro ⟨hd,hq⟩<;>first|(exfalso; omega)|simp -implicitDefEqProofs only [go_sem,hd]|skip)|refine vz ?_|simp -implicitDefEqProofs only [go_sem,dct e1,dcf (Int.not_lt.2 e2)])
     ((try (refine Z_seq ?_; (try simp -implicitDefEqProofs only [go_sem]))); refine Z_draw (by kernel_rfl) [0,1,2,3,5,7,8,9,11,13,4,6,10,12,14,15,16,17,18,19] [(19,524287),(18,131071),(17,65535),(16,65535),(15,32767),(14,16383),(12,4094),(10,1022),(6,62),(4,14),(13,0),(11,0),(9,256),(8,0),(7,0),(5,0),(3,4),(2,0),(1,0),(0,0)] (by kernel_rfl) (by kernel_rfl) ?_)
     simp -implicitDefEqProofs only [go_sem,c1,c2,c3,cc,hfit,kN,cN,iN,kV,cV,iV,g0,g1,s1,s2,a1,a2,a3,a4,g01,g11,g02,g12,g03,g13,g04,g14]
     refine (hV2 _).use1E ?_
     generalize hr:run4 x (ns++[nnB]) (vs++[5]) fs=r
     simp -implicitDefEqProofs only [go_sem,c1,c2,c3,cc,hfit,kN,cN,iN,kV,cV,iV,g04,g14]
     refine (hIn _).use ?_
     by_cases hm:nnB∈ns
     ·(repeat' first|(refine vy ?_ ?_<;>rintro ⟨hd,hq⟩<;>first|(exfalso; omega)|simp -implicitDefEqProofs only [go_sem,hd]|skip)|refine vz ?_|simp -implicitDefEqProofs only [go_sem,dct hm])
      exact ⟨_,_,rfl,rfl,rfl⟩
     ·rw [hmore hm] at hr
      subst hr
      (repeat' first|(refine vy ?_ ?_<;>rintro ⟨hd,hq⟩<;>first|(exfalso; omega)|simp -implicitDefEqProofs only [go_sem,hd]|skip)|refine vz ?_|simp -implicitDefEqProofs only [go_sem,dcf hm])
      exact ⟨_,_,rfl,rfl,rfl⟩
    ·rw [if_neg hc]
     (repeat' first|(refine vy ?_ ?_<;>rintro ⟨hd,hq⟩<;>first|(exfalso; omega)|simp -implicitDefEqProofs only [go_sem,hd]|skip)|refine vz ?_|simp -implicitDefEqProofs only [go_sem])
     ((try (refine Z_seq ?_; (try simp -implicitDefEqProofs only [go_sem]))); refine Z_draw (by kernel_rfl) [0,1,2,3,5,7,8,9,11,13,4,6,10,12,14,15,16,17,18,19] [(19,524287),(18,131071),(17,65535),(16,65535),(15,32767),(14,16383),(12,4094),(10,1022),(6,62),(4,14),(13,0),(11,0),(9,256),(8,0),(7,0),(5,0),(3,4),(2,0),(1,0),(0,0)] (by kernel_rfl) (by kernel_rfl) ?_)
     simp -implicitDefEqProofs only [go_sem,c1,c2,c3,cc,hfit,kN,cN,iN,kV,cV,iV,g0,g1,s1,s2,a1,a2,a3,a4,g01,g11,g02,g12,g03,g13,g04,g14]
     refine (hV2 _).use1E ?_
     generalize hr:run4 x (ns++[nnB]) (vs++[5]) fs=r
     simp -implicitDefEqProofs only [go_sem,c1,c2,c3,cc,hfit,kN,cN,iN,kV,cV,iV,g04,g14]
     refine (hIn _).use ?_
     by_cases hm:nnB∈ns
     ·(repeat' first|(refine vy ?_ ?_<;>rintro ⟨hd,hq⟩<;>first|(exfalso; omega)|simp -implicitDefEqProofs only [go_sem,hd]|skip)|refine vz ?_|simp -implicitDefEqProofs only [go_sem,dct hm])
      exact ⟨_,_,rfl,rfl,rfl⟩
     ·rw [hmore hm] at hr
      subst hr
      (repeat' first|(refine vy ?_ ?_<;>rintro ⟨hd,hq⟩<;>first|(exfalso; omega)|simp -implicitDefEqProofs only [go_sem,hd]|skip)|refine vz ?_|simp -implicitDefEqProofs only [go_sem,dcf hm])
      exact ⟨_,_,rfl,rfl,rfl⟩
   ·(repeat' first|(refine vy ?_ ?_<;>rintro ⟨hd,hq⟩<;>first|(exfalso; omega)|simp -implicitDefEqProofs only [go_sem,hd]|skip)|refine vz ?_|simp -implicitDefEqProofs only [go_sem,c1,c2,c3,cc,hfit,kN,cN,iN,kV,cV,iV,g0,g1,dcf d1,dcf d2,dcf d3,dcf d4,dcf d5])
    refine (nodesC hX (by omega)).use ?_
    unfold nodesI
    by_cases hc:noCall x=true
    ·rw [if_pos hc]
     have e1:(nodesE x:Int)>=0:=by omega
     have e2:=m3 hc
     (repeat' first|(refine vy ?_ ?_<;>rintro ⟨hd,hq⟩<;>first|(exfalso; omega)|simp -implicitDefEqProofs only [go_sem,hd]|skip)|refine vz ?_|simp -implicitDefEqProofs only [go_sem,dct e1,dcf (Int.not_lt.2 e2)])
     ((try (refine Z_seq ?_; (try simp -implicitDefEqProofs only [go_sem]))); refine Z_draw (by kernel_rfl) [0,1,2,3,5,7,8,9,11,13,4,6,10,12,14,15,16,17,18,19] [(19,524287),(18,131071),(17,65535),(16,65535),(15,32767),(14,16383),(12,4094),(10,1022),(6,62),(4,14),(13,0),(11,0),(9,256),(8,0),(7,0),(5,0),(3,4),(2,0),(1,0),(0,0)] (by kernel_rfl) (by kernel_rfl) ?_)
     simp -implicitDefEqProofs only [go_sem,c1,c2,c3,cc,hfit,kN,cN,iN,kV,cV,iV,g0,g1,s1,s2,a1,a2,a3,a4,g01,g11,g02,g12,g03,g13,g04,g14]
     refine (hV2 _).use1E ?_
     generalize hr:run4 x (ns++[nnB]) (vs++[5]) fs=r
     simp -implicitDefEqProofs only [go_sem,c1,c2,c3,cc,hfit,kN,cN,iN,kV,cV,iV,g04,g14]
     refine (hIn _).use ?_
     by_cases hm:nnB∈ns
     ·(repeat' first|(refine vy ?_ ?_<;>rintro ⟨hd,hq⟩<;>first|(exfalso; omega)|simp -implicitDefEqProofs only [go_sem,hd]|skip)|refine vz ?_|simp -implicitDefEqProofs only [go_sem,dct hm])
      exact ⟨_,_,rfl,rfl,rfl⟩
     ·rw [hmore hm] at hr
      subst hr
      (repeat' first|(refine vy ?_ ?_<;>rintro ⟨hd,hq⟩<;>first|(exfalso; omega)|simp -implicitDefEqProofs only [go_sem,hd]|skip)|refine vz ?_|simp -implicitDefEqProofs only [go_sem,dcf hm])
      exact ⟨_,_,rfl,rfl,rfl⟩
    ·rw [if_neg hc]
     (repeat' first|(refine vy ?_ ?_<;>rintro ⟨hd,hq⟩<;>first|(exfalso; omega)|simp -implicitDefEqProofs only [go_sem,hd]|skip)|refine vz ?_|simp -implicitDefEqProofs only [go_sem])
     ((try (refine Z_seq ?_; (try simp -implicitDefEqProofs only [go_sem]))); refine Z_draw (by kernel_rfl) [0,1,2,3,5,7,8,9,11,13,4,6,10,12,14,15,16,17,18,19] [(19,524287),(18,131071),(17,65535),(16,65535),(15,32767),(14,16383),(12,4094),(10,1022),(6,62),(4,14),(13,0),(11,0),(9,256),(8,0),(7,0),(5,0),(3,4),(2,0),(1,0),(0,0)] (by kernel_rfl) (by kernel_rfl) ?_)
     simp -implicitDefEqProofs only [go_sem,c1,c2,c3,cc,hfit,kN,cN,iN,kV,cV,iV,g0,g1,s1,s2,a1,a2,a3,a4,g01,g11,g02,g12,g03,g13,g04,g14]
     refine (hV2 _).use1E ?_
     generalize hr:run4 x (ns++[nnB]) (vs++[5]) fs=r
     simp -implicitDefEqProofs only [go_sem,c1,c2,c3,cc,hfit,kN,cN,iN,kV,cV,iV,g04,g14]
     refine (hIn _).use ?_
     by_cases hm:nnB∈ns
     ·(repeat' first|(refine vy ?_ ?_<;>rintro ⟨hd,hq⟩<;>first|(exfalso; omega)|simp -implicitDefEqProofs only [go_sem,hd]|skip)|refine vz ?_|simp -implicitDefEqProofs only [go_sem,dct hm])
      exact ⟨_,_,rfl,rfl,rfl⟩
     ·rw [hmore hm] at hr
      subst hr
      (repeat' first|(refine vy ?_ ?_<;>rintro ⟨hd,hq⟩<;>first|(exfalso; omega)|simp -implicitDefEqProofs only [go_sem,hd]|skip)|refine vz ?_|simp -implicitDefEqProofs only [go_sem,dcf hm])
      exact ⟨_,_,rfl,rfl,rfl⟩
   ·(repeat' first|(refine vy ?_ ?_<;>rintro ⟨hd,hq⟩<;>first|(exfalso; omega)|simp -implicitDefEqProofs only [go_sem,hd]|skip)|refine vz ?_|simp -implicitDefEqProofs only [go_sem,c1,c2,c3,cc,hfit,kN,cN,iN,kV,cV,iV,g0,g1,dcf d1,dcf d2,dcf d3,dcf d4,dcf d5,dcf h0,dcf h1])
    refine (nodesC hX (by omega)).use ?_
    unfold nodesI
    by_cases hc:noCall x=true
    ·rw [if_pos hc]
     have e1:(nodesE x:Int)>=0:=by omega
     have e2:=m3 hc
     (repeat' first|(refine vy ?_ ?_<;>rintro ⟨hd,hq⟩<;>first|(exfalso; omega)|simp -implicitDefEqProofs only [go_sem,hd]|skip)|refine vz ?_|simp -implicitDefEqProofs only [go_sem,dct e1,dcf (Int.not_lt.2 e2)])
     ((try (refine Z_seq ?_; (try simp -implicitDefEqProofs only [go_sem]))); refine Z_draw (by kernel_rfl) [0,1,2,3,5,7,8,9,11,13,4,6,10,12,14,15,16,17,18,19] [(19,524287),(18,131071),(17,65535),(16,65535),(15,32767),(14,16383),(12,4094),(10,1022),(6,62),(4,14),(13,0),(11,0),(9,256),(8,0),(7,0),(5,0),(3,4),(2,0),(1,0),(0,0)] (by kernel_rfl) (by kernel_rfl) ?_)
     simp -implicitDefEqProofs only [go_sem,c1,c2,c3,cc,hfit,kN,cN,iN,kV,cV,iV,g0,g1,s1,s2,a1,a2,a3,a4,g01,g11,g02,g12,g03,g13,g04,g14]
     refine (hV2 _).use1E ?_
     generalize hr:run4 x (ns++[nnB]) (vs++[5]) fs=r
     simp -implicitDefEqProofs only [go_sem,c1,c2,c3,cc,hfit,kN,cN,iN,kV,cV,iV,g04,g14]
     refine (hIn _).use ?_
     by_cases hm:nnB∈ns
     ·(repeat' first|(refine vy ?_ ?_<;>rintro ⟨hd,hq⟩<;>first|(exfalso; omega)|simp -implicitDefEqProofs only [go_sem,hd]|skip)|refine vz ?_|simp -implicitDefEqProofs only [go_sem,dct hm])
      exact ⟨_,_,rfl,rfl,rfl⟩
     ·rw [hmore hm] at hr
      subst hr
      (repeat' first|(refine vy ?_ ?_<;>rintro ⟨hd,hq⟩<;>first|(exfalso; omega)|simp -implicitDefEqProofs only [go_sem,hd]|skip)|refine vz ?_|simp -implicitDefEqProofs only [go_sem,dcf hm])
      exact ⟨_,_,rfl,rfl,rfl⟩
    ·rw [if_neg hc]
     (repeat' first|(refine vy ?_ ?_<;>rintro ⟨hd,hq⟩<;>first|(exfalso; omega)|simp -implicitDefEqProofs only [go_sem,hd]|skip)|refine vz ?_|simp -implicitDefEqProofs only [go_sem])
     ((try (refine Z_seq ?_; (try simp -implicitDefEqProofs only [go_sem]))); refine Z_draw (by kernel_rfl) [0,1,2,3,5,7,8,9,11,13,4,6,10,12,14,15,16,17,18,19] [(19,524287),(18,131071),(17,65535),(16,65535),(15,32767),(14,16383),(12,4094),(10,1022),(6,62),(4,14),(13,0),(11,0),(9,256),(8,0),(7,0),(5,0),(3,4),(2,0),(1,0),(0,0)] (by kernel_rfl) (by kernel_rfl) ?_)
     simp -implicitDefEqProofs only [go_sem,c1,c2,c3,cc,hfit,kN,cN,iN,kV,cV,iV,g0,g1,s1,s2,a1,a2,a3,a4,g01,g11,g02,g12,g03,g13,g04,g14]
     refine (hV2 _).use1E ?_
     generalize hr:run4 x (ns++[nnB]) (vs++[5]) fs=r
     simp -implicitDefEqProofs only [go_sem,c1,c2,c3,cc,hfit,kN,cN,iN,kV,cV,iV,g04,g14]
     refine (hIn _).use ?_
     by_cases hm:nnB∈ns
     ·(repeat' first|(refine vy ?_ ?_<;>rintro ⟨hd,hq⟩<;>first|(exfalso; omega)|simp -implicitDefEqProofs only [go_sem,hd]|skip)|refine vz ?_|simp -implicitDefEqProofs only [go_sem,dct hm])
      exact ⟨_,_,rfl,rfl,rfl⟩
     ·rw [hmore hm] at hr
      subst hr
      (repeat' first|(refine vy ?_ ?_<;>rintro ⟨hd,hq⟩<;>first|(exfalso; omega)|simp -implicitDefEqProofs only [go_sem,hd]|skip)|refine vz ?_|simp -implicitDefEqProofs only [go_sem,dcf hm])
      exact ⟨_,_,rfl,rfl,rfl⟩
end
theorem sh24:shape Tryz.prog 24=.struct [3,9,2,22]:=by kernel_rfl
theorem sh22:shape Tryz.prog 22=.slice 24 4 true:=by kernel_rfl
theorem sh25:shape Tryz.prog 25=.slice 9 1 false:=by kernel_rfl
theorem sh29:shape Tryz.prog 29=.slice 57 3 true:=by kernel_rfl
theorem sh57:shape Tryz.prog 57=.struct [9,25,55]:=by kernel_rfl
theorem sh55:shape Tryz.prog 55=.slice 91 8 true:=by kernel_rfl
theorem sh91:shape Tryz.prog 91=.struct [3,9,24,55,55]:=by kernel_rfl
theorem sh3:shape Tryz.prog 3=.int .i64:=by kernel_rfl
theorem sh2:shape Tryz.prog 2=.int .i64:=by kernel_rfl
theorem sh9:shape Tryz.prog 9=.str:=by kernel_rfl
theorem by24:Tryz.prog.bytesOf 24=56:=by kernel_rfl
theorem by9:Tryz.prog.bytesOf 9=16:=by kernel_rfl
theorem by91:Tryz.prog.bytesOf 91=128:=by kernel_rfl
theorem by57:Tryz.prog.bytesOf 57=64:=by kernel_rfl
theorem tw_int {P:Program} {n t:Nat} {vs:List AVal} (hs:shape P t=.int .i64) (h:HasTyW P n t vs):∃ m,in64 m/\vs=[(.sc (.int .i64 (m)))]:=by
 cases n with
 | zero=>exact h.elim
 | succ n=>
  unfold HasTyW at h
  rw [hs] at h
  obtain ⟨m,hw,h⟩:=h
  refine ⟨m,?_,h⟩
  have:(Lit.int .i64 m).wf=true:=hw
  simp [Lit.wf,IntKind.min,IntKind.max,IntKind.signed,IntKind.bits] at this
  exact ⟨by omega,by omega⟩
theorem tw_str {P:Program} {n t:Nat} {vs:List AVal} (hs:shape P t=.str) (h:HasTyW P n t vs):∃ s:ByteArray,s.size<=281474976710656/\vs=[.sc (.string s)]:=by
 cases n with
 | zero=>exact h.elim
 | succ n=>
  unfold HasTyW at h
  rw [hs] at h
  obtain ⟨s,hw,h⟩:=h
  exact ⟨s,by omega,h⟩
theorem tw_struct {P:Program} {n t:Nat} {ts:List TypeId} {vs:List AVal} (hs:shape P t=.struct ts) (h:HasTyW P (n+1) t vs):HasL (HasTyW P n) P ts vs:=by
 unfold HasTyW at h
 rw [hs] at h
 exact h
/-- A slice that came in. -/
theorem tw_slice {P:Program} {n t e c by':Nat} {agg:Bool} {vs:List AVal} (hs:shape P t=.slice e c agg) (hb:P.bytesOf e=by') (h0:0 < by') (h:HasTyW P (n+1) t vs):
  ∃ (S:AVal) (els:List AVal),vs=[S]/\IsD c S els/\els.length<=281474976710656/\∀ x∈els,HasTyW P n e x.cells/\x.cells.length=c/\x.isAgg=agg:=by
 unfold HasTyW at h
 rw [hs] at h
 rcases h with h|⟨a,c,h⟩|⟨els,_,_,hlen,h,hels⟩
 ·exact ⟨_,[],h,.inl ⟨rfl,_,_,rfl⟩,by simp,by simp⟩
 ·exact ⟨_,[],h,.inl ⟨rfl,_,_,rfl⟩,by simp,by simp⟩
 ·rw [hb] at hlen
  exact ⟨_,els,h,.inr ⟨_,rfl⟩,by have:=Nat.le_mul_of_pos_right els.length h0; omega,hels⟩
theorem names_of {n:Nat} {els:List AVal} (h:∀ x∈els,HasTyW Tryz.prog n 9 x.cells/\x.cells.length=1/\x.isAgg=false):∃ g:List ByteArray,els=g.map sA/\∀ s∈g,s.size<=281474976710656:=by
 induction els with
 | nil=>exact ⟨[],rfl,by simp⟩
 | cons x els ih=>
  obtain ⟨g,rfl,hg⟩:=ih fun y hy=>h y (by simp [hy])
  obtain ⟨h1,_,h2⟩:=h x (by simp)
  obtain ⟨s,hs,he⟩:=tw_str sh9 h1
  have:=one_of h2 he
  subst this
  exact ⟨s::g,rfl,by intro t ht; rcases List.mem_cons.1 ht with rfl|ht; exact hs; exact hg t ht⟩
theorem is_names {n:Nat} {vs:List AVal} (h:HasTyW Tryz.prog n 25 vs):∃ (S:AVal) (g:List ByteArray),vs=[S]/\IsD 1 S (g.map sA)/\g.length<=281474976710656/\∀ s∈g,s.size<=281474976710656:=by
 cases n with
 | zero=>exact h.elim
 | succ n=>
  obtain ⟨S,els,h1,h2,h3,h4⟩:=tw_slice sh25 by9 (by decide) h
  obtain ⟨g,rfl,hg⟩:=names_of h4
  exact ⟨S,g,h1,h2,by rw [List.length_map] at h3; exact h3,hg⟩
theorem is_ex (n:Nat):(∀ vs,HasTyW Tryz.prog n 24 vs->∃ x,IsEx x (.agg vs))/\(∀ vs,HasTyW Tryz.prog n 22 vs->∃ S els xs,vs=[S]/\IsD 4 S els/\IsExs xs els/\els.length<=281474976710656):=by
 induction n with
 | zero=>exact ⟨fun vs h=>h.elim,fun vs h=>h.elim⟩
 | succ n ih=>
  constructor
  ·intro vs h
   obtain ⟨a1,r1,rfl,_,h1,a2,r2,rfl,_,h2,a3,r3,rfl,_,h3,a4,r4,rfl,_,h4,h5⟩:=tw_struct sh24 h
   have h5:r4=[]:=h5
   subst h5
   obtain ⟨k,hk,rfl⟩:=tw_int sh3 h1
   obtain ⟨s,hs,rfl⟩:=tw_str sh9 h2
   obtain ⟨i,hi,rfl⟩:=tw_int sh2 h3
   obtain ⟨S,els,xs,rfl,hS,hx,hl⟩:=ih.2 _ h4
   refine ⟨.mk k s i xs,?_⟩
   simp only [IsEx]
   exact ⟨S,els,rfl,hS,hx,hk,hi,hs,hl⟩
  ·intro vs h
   obtain ⟨S,els,h1,h2,h3,h4⟩:=tw_slice sh22 by24 (by decide) h
   have key:∃ xs,IsExs xs els:=by
    clear h2 h3
    induction els with
    | nil=>exact ⟨[],rfl⟩
    | cons x els ih2=>
     obtain ⟨xs,hxs⟩:=ih2 fun y hy=>h4 y (by simp [hy])
     obtain ⟨g1,_,g2⟩:=h4 x (by simp)
     obtain ⟨y,hy⟩:=ih.1 _ g1
     rw [<-agg_of g2 rfl] at hy
     exact ⟨y::xs,x,els,rfl,hy,hxs⟩
   obtain ⟨xs,hxs⟩:=key
   exact ⟨S,els,xs,h1,h2,hxs,h3⟩
theorem is_st (n:Nat):(∀ vs,HasTyW Tryz.prog n 91 vs->∃ x,IsSt x (.agg vs))/\(∀ vs,HasTyW Tryz.prog n 55 vs->∃ S els xs,vs=[S]/\IsD 8 S els/\IsSts xs els/\els.length<=281474976710656):=by
 induction n with
 | zero=>exact ⟨fun vs h=>h.elim,fun vs h=>h.elim⟩
 | succ n ih=>
  constructor
  ·intro vs h
   obtain ⟨a1,r1,rfl,_,h1,a2,r2,rfl,_,h2,a3,r3,rfl,_,h3,a4,r4,rfl,_,h4,a5,r5,rfl,_,h5,h6⟩:=tw_struct sh91 h
   have h6:r5=[]:=h6
   subst h6
   obtain ⟨k,hk,rfl⟩:=tw_int sh3 h1
   obtain ⟨s,hs,rfl⟩:=tw_str sh9 h2
   obtain ⟨x,hx⟩:=(is_ex n).1 _ h3
   obtain ⟨SB,eb,xb,rfl,hB,hb,hlb⟩:=ih.2 _ h4
   obtain ⟨SE,ee,xe,rfl,hE,he,hle⟩:=ih.2 _ h5
   obtain ⟨ek,en,ei,ez⟩:=x
   simp only [IsEx] at hx
   obtain ⟨SA,ea,hv,hA,ha,hk2,hi2,hn2,hl2⟩:=hx
   injection hv with hv
   subst hv
   refine ⟨.mk k s (.mk ek en ei ez) xb xe,?_⟩
   simp only [IsSt]
   exact ⟨SA,SB,SE,ea,eb,ee,rfl,hA,ha,hB,hb,hE,he,hk,hk2,hi2,hs,hn2,hl2,hlb,hle⟩
  ·intro vs h
   obtain ⟨S,els,h1,h2,h3,h4⟩:=tw_slice sh55 by91 (by decide) h
   have key:∃ xs,IsSts xs els:=by
    clear h2 h3
    induction els with
    | nil=>exact ⟨[],rfl⟩
    | cons x els ih2=>
     obtain ⟨xs,hxs⟩:=ih2 fun y hy=>h4 y (by simp [hy])
     obtain ⟨g1,_,g2⟩:=h4 x (by simp)
     obtain ⟨y,hy⟩:=ih.1 _ g1
     rw [<-agg_of g2 rfl] at hy
     exact ⟨y::xs,x,els,rfl,hy,hxs⟩
   obtain ⟨xs,hxs⟩:=key
   exact ⟨S,els,xs,h1,h2,hxs,h3⟩
theorem is_fc {n:Nat} {vs:List AVal} (h:HasTyW Tryz.prog (n+1) 57 vs):∃ f,IsFc f (.agg vs):=by
 obtain ⟨a1,r1,rfl,_,h1,a2,r2,rfl,_,h2,a3,r3,rfl,_,h3,h4⟩:=tw_struct sh57 h
 have h4:r3=[]:=h4
 subst h4
 obtain ⟨s,hs,rfl⟩:=tw_str sh9 h1
 obtain ⟨SP,ps,rfl,hP,hlp,hsp⟩:=is_names h2
 obtain ⟨SB,eb,xb,rfl,hB,hb,hlb⟩:=(is_st n).2 _ h3
 exact ⟨⟨s,ps,xb⟩,SP,SB,eb,rfl,hP,hB,hb,hs,hsp,hlp,hlb⟩
theorem is_fcs {n:Nat} {vs:List AVal} (h:HasTyW Tryz.prog n 29 vs):∃ (S:AVal) (els:List AVal) (fs:List Fc),vs=[S]/\IsD 3 S els/\IsFcs fs els/\els.length<=281474976710656:=by
 cases n with
 | zero=>exact h.elim
 | succ n=>
  obtain ⟨S,els,h1,h2,h3,h4⟩:=tw_slice sh29 by57 (by decide) h
  have key:∃ fs,IsFcs fs els:=by
   clear h2 h3
   induction els with
   | nil=>exact ⟨[],rfl,fun j f h=>by simp at h⟩
   | cons x els ih2=>
    obtain ⟨xs,hxs⟩:=ih2 fun y hy=>h4 y (by simp [hy])
    obtain ⟨g1,_,g2⟩:=h4 x (by simp)
    cases n with
    | zero=>exact g1.elim
    | succ n=>
     obtain ⟨y,hy⟩:=is_fc g1
     rw [<-agg_of g2 rfl] at hy
     refine ⟨y::xs,by simp [hxs.len],fun j f hj=>?_⟩
     cases j with
     | zero=>simp at hj; subst hj; exact ⟨x,rfl,hy⟩
     | succ j=>simpa using hxs.at' j f (by simpa using hj)
  obtain ⟨fs,hfs⟩:=key
  exact ⟨S,els,fs,h1,h2,hfs,h3⟩
theorem shL26:shape Tryz.prog 26=.slice 2 1 false:=by kernel_rfl
theorem sh28:shape Tryz.prog 28=.struct [25,26]:=by kernel_rfl
theorem by2:Tryz.prog.bytesOf 2=8:=by kernel_rfl
theorem is_longs {n:Nat} {vs:List AVal} (h:HasTyW Tryz.prog n 26 vs):∃ (S:AVal) (l:List Int),vs=[S]/\IsD 1 S (l.map fun v=>(.sc (.int .i64 (v)))):=by
 cases n with
 | zero=>exact h.elim
 | succ n=>
  obtain ⟨S,els,h1,h2,h3,h4⟩:=tw_slice shL26 by2 (by decide) h
  have key:∃ l:List Int,els=l.map fun v=>(.sc (.int .i64 (v))):=by
   clear h2 h3
   induction els with
   | nil=>exact ⟨[],rfl⟩
   | cons x els ih=>
    obtain ⟨g,rfl⟩:=ih fun y hy=>h4 y (by simp [hy])
    obtain ⟨h1,_,h2⟩:=h4 x (by simp)
    obtain ⟨m,_,he⟩:=tw_int sh2 h1
    have:=one_of h2 he
    subst this
    exact ⟨m::g,rfl⟩
  obtain ⟨l,rfl⟩:=key
  exact ⟨S,l,h1,h2⟩
theorem is_given {n:Nat} {vs:List AVal} (h:HasTyW Tryz.prog (n+1) 28 vs):∃ (N V:AVal) (ns:List ByteArray) (ws:List Int),vs=[N,V]/\IsD 1 N (ns.map sA)/\IsD 1 V (ws.map fun v=>(.sc (.int .i64 (v))))/\ns.length<=281474976710656/\∀ s∈ns,s.size<=281474976710656:=by
 obtain ⟨a1,r1,rfl,_,h1,a2,r2,rfl,_,h2,h4⟩:=tw_struct sh28 h
 have h4:r2=[]:=h4
 subst h4
 obtain ⟨N,ns,rfl,hN,hl,hs⟩:=is_names h1
 obtain ⟨V,ws,rfl,hV⟩:=is_longs h2
 exact ⟨N,V,ns,ws,rfl,hN,hV,hl,hs⟩
end Abs
end
