/-
  Functions of the program walked: each is shown to compute a plain function (T18).
-/
import Derived.Test.YtdbkkindfakbfaaT8
noncomputable section
namespace Abs
set_option linter.unusedSimpArgs false
set_option linter.unusedVariables false
set_option maxRecDepth 100000
set_option maxHeartbeats 16000000
open Go Go.Proofs
theorem ms_new {σ:AStore} {b c:Nat} {m:List (ByteArray×AVal)} {k:ByteArray} {v:AVal} (h:getM m k=none):msAt σ b .string (.string k) v (some (.map (strM m) c))=some (σ.set b (.map (strM (m++[(k,v)])) (c+1))):=by
 simp only [msAt,aFind_str,h,Option.map_none,Option.map_some]
 rw [strM_append]; rfl
theorem Z_ofV {E:Env} {n:Nat} {c:Code} {Q:SPred} {e:Ev} {σ:AStore} (h:V E n c Q e σ):Z E n c Q e σ:=fun hc he=>V_sound c h hc he
mutual
/-- Scalars, records and data. -/
inductive Dat:AVal->Prop
 | sc (v:Value):Dat (.sc v)
 | agg (cs:List AVal) (h:Dats cs):Dat (.agg cs)
 | data (sz:Nat) (t:Bool) (els:List AVal) (h:Dats els):Dat (.data sz t els)
inductive Dats:List AVal->Prop
 | nil:Dats []
 | cons (v:AVal) (vs:List AVal) (h:Dat v) (hs:Dats vs):Dats (v::vs)
end
mutual
theorem Dat.frz {σ:AStore}:∀ {v:AVal},Dat v->∃ N,∀ M,N<=M->Abs.frz σ M v=some v
  | _,.sc v=>⟨1,fun M h=>by obtain ⟨M,rfl⟩:∃ k,M=k+1:=⟨M - 1,by omega⟩; rfl⟩
  | _, .agg cs h => by
      obtain ⟨N,hN⟩:=Dats.frz (σ:=σ) h
      refine ⟨N+1,fun M hM=>?_⟩
      obtain ⟨M,rfl⟩:∃ k,M=k+1:=⟨M - 1,by omega⟩
      rw [frz_agg,hN M (by omega)]; rfl
  | _, .data sz t els h => by
      obtain ⟨N,hN⟩:=Dats.frz (σ:=σ) h
      refine ⟨N+1,fun M hM=>?_⟩
      obtain ⟨M,rfl⟩:∃ k,M=k+1:=⟨M - 1,by omega⟩
      rw [frz_data,hN M (by omega)]; rfl
theorem Dats.frz {σ:AStore}:∀ {vs:List AVal},Dats vs->∃ N,∀ M,N<=M->mapO (Abs.frz σ M) vs=some vs
  | _,.nil=>⟨0,fun _ _=>rfl⟩
  | _, .cons v vs h hs => by
      obtain ⟨N1,h1⟩:=Dat.frz (σ:=σ) h
      obtain ⟨N2,h2⟩:=Dats.frz (σ:=σ) hs
      refine ⟨N1+N2,fun M hM=>?_⟩
      rw [mapO_cons',h1 M (by omega),h2 M (by omega)]; rfl
end
theorem IsD.dat {sz:Nat} {x:AVal} {els:List AVal} (h:IsD sz x els) (hw:Dats els):Dat x:=by
 rcases h with ⟨rfl,a,c,rfl⟩|⟨t,rfl⟩
 ·exact .sc _
 ·exact .data _ _ _ hw
mutual
theorem IsEx.dat:∀ {x:Ex} {v:AVal},IsEx x v->Dat v
  | .mk k nm i zs, v, h => by
      simp only [IsEx] at h
      obtain ⟨S,els,rfl,hS,hs,_⟩:=h
      exact .agg _ (.cons _ _ (.sc _) (.cons _ _ (.sc _) (.cons _ _ (.sc _) (.cons _ _ (hS.dat (IsExs.dat hs)) .nil))))
theorem IsExs.dat:∀ {zs:List Ex} {els:List AVal},IsExs zs els->Dats els
  | [],els,h=>by simp only [IsExs] at h; subst h; exact .nil
  | x :: xs, els, h => by
      simp only [IsExs] at h
      obtain ⟨e,es,rfl,h1,h⟩:=h
      exact .cons _ _ (IsEx.dat h1) (IsExs.dat h)
end
end Abs
end
