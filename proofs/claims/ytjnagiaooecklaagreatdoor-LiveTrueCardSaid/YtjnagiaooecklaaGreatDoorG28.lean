/-
  Walks of functions of the program: each contract says what the function computes, for every input that its conditions let by. No other condition.
-/
import Derived.Test.YtjnagiaooecklaaGreatDoorG10
import Derived.Test.YtjnagiaooecklaaGreatDoorG13
import Derived.Test.YtjnagiaooecklaaGreatDoorG20
import Derived.Test.YtjnagiaooecklaaGreatDoorG11
import Derived.Test.YtjnagiaooecklaaGreatDoorG27
set_option linter.all false
set_option maxRecDepth 100000
set_option linter.unusedSimpArgs false
set_option maxHeartbeats 4000000
namespace Go.Hx
open Go.Proofs
variable [Glob] [GlobL]
attribute [local go_sem] zAk zAi zAj zAe ndV zAg zAf zB5 zA2
attribute [local go_sem] reduceCtorEq Nat.reduceAdd Nat.reduceEqDiff reduceIte Nat.reduceLeDiff Nat.reduceLT Nat.reduceSub
def zHh (d:List Nd) (ix:List Ent):PVal:=.agg [.sl 5 (zEf d),.sl 3 (zCK ix)]
def zFf (d:List Nd) (ix:List Ent):Int:=if zAd d≠0 then zAd d else if idxOf d==ix then 0 else 1
theorem zOB (d:List Nd) (ix:List Ent):Contract Tryz.prog zEx [.val (zHh d ix)] {res:=.val (iv (zFf d ix))}:=by
 have hB:=zMN d
 have hE:=yCs (idxOf d) ix
 unfold zFf zHh
 obtain ⟨e,he⟩:∃ e,e=zAd d:=⟨_,rfl⟩
 rw [←he] at hB ⊢
 unfold zCv at hB
 refine mkA zXv (base:=0) (fo rfl) (fun hfit=>?_)
 unfold F0 zOw
 refine goU ?_
 refine zAR (by repeat' constructor) (hB) ?_
 refine goW ?_
 refine zAa (by rfl) trivial (fun h0=>?_) (fun h0=>?_)
 ·have h1:e≠0:=by simpa using h0
  rw [if_pos h1]
  refine goW ?_
  exact zAb rfl trivial (.inl rfl)
 have h1:e=0:=by simpa using h0
 subst h1
 rw [if_neg (by decide)]
 refine goW ?_
 refine zAo (by repeat' constructor) (hE) ?_
 refine goW ?_
 refine zAa (by rfl) trivial (fun h2=>?_) (fun h2=>?_)
 ·have h3:(idxOf d==ix)=false:=by simpa using h2
  rw [h3]
  refine goW ?_
  exact zAb rfl trivial (.inl rfl)
 ·have h3:(idxOf d==ix)=true:=by simpa using h2
  rw [h3]
  refine goW ?_
  exact zAb rfl trivial (.inl rfl)
def yLU (d:List Nd) (q:Nat→Prop) (B:Int) (M:List (Int×Int)):Prop:=∀ n:Nat,n < d.length→(0 < (zSG M n).getD 0↔q n)∧0≤(zSG M n).getD 0∧(zSG M n).getD 0≤B
theorem yJa {d:List Nd} {q q':Nat→Prop} {B:Int} {M:List (Int×Int)} (h:yLU d q B M) {m:Nat} (hm:m < d.length) (hq:∀ n,n < d.length→(q' n↔q n∨n=m)):yLU d q' (B+1) (yFs M m ((zSG M m).getD 0+1)):=by
 intro n hn
 obtain ⟨h1,h2,h3⟩:=h n hn
 obtain ⟨g1,g2,g3⟩:=h m hm
 rw [zJE]
 by_cases e:(n:Int)=m
 ·have e':n=m:=by omega
  rw [if_pos e,hq n hn]
  subst e'
  simp only [Option.getD_some]
  exact ⟨⟨fun _=>(by simp),fun _=>(by omega)⟩,by omega,by omega⟩
 ·have e':n≠m:=fun h=>e (by rw [h])
  rw [if_neg e,hq n hn,h1]
  refine ⟨⟨.inl,fun h=>h.resolve_right e'⟩,h2,by omega⟩
theorem zM4 {d:List Nd} {q q':Nat→Prop} {B B':Int} {M:List (Int×Int)} (h:yLU d q B M) (hB:B≤B') (hq:∀ n,n < d.length→(q' n↔q n)):yLU d q' B' M:=by
 intro n hn
 obtain ⟨h1,h2,h3⟩:=h n hn
 rw [hq n hn]
 exact ⟨h1,h2,by omega⟩
theorem yHm {l:List Pt} (h:zB8 l=0) {i:Nat} (hi:i < l.length):GP (l.getD i default) 1∧zB8 [l.getD i default]=0:=by
 have hG:=yK6 h
 have hp:=hG.2.2.2.get i hi
 refine ⟨hp,yG0 ⟨by decide,by simp,by simp,?_⟩⟩
 obtain ⟨h1,h2,h3,h4⟩:=hp
 exact ⟨by simp only [yFP,h1,Bool.or_self],by simp only [yIy,h2,Bool.or_self],by simp only [yIA,h3,Bool.or_self],by simp only [yHQ,h4,Bool.or_self]⟩
theorem yNJ (d:List Nd) (l:List Pt) (n:Nat):lM d l n=true↔∃ k,k < l.length∧pM d (l.getD k default) n=true:=by
 rw [yGB,List.any_eq_true]
 constructor
 ·rintro ⟨p,hp,h⟩
  obtain ⟨k,hk,rfl⟩:=List.mem_iff_getElem.1 hp
  exact ⟨k,hk,by simpa [hk] using h⟩
 ·rintro ⟨k,hk,h⟩
  exact ⟨l.getD k default,zFr hk,h⟩
def yHn (d:List Nd) (ix:List Ent) (l:List Pt):Int:=if zFf d ix≠0 then zFf d ix else zB8 l
theorem yAB (hM:zO6) (d:List Nd) (ix:List Ent) (l:List Pt):Contract Tryz.prog zHd [.val (zHh d ix),.val (zBC l)] {res:=.tup [.one (.sl 1 (zAH (if yHn d ix l=0 then yLT d l else []))),iv (yHn d ix l)]}:=by
 have hF:=zOB d ix
 have hP:=zOy l
 unfold yHn
 obtain ⟨e,he⟩:∃ e,e=zFf d ix:=⟨_,rfl⟩
 rw [←he] at hF ⊢
 unfold zHh at hF ⊢
 unfold zBC at hP ⊢
 obtain ⟨c,hc⟩:∃ c,c=zB8 l:=⟨_,rfl⟩
 rw [←hc] at hP ⊢
 obtain ⟨E,hE⟩:∃ E,E=if e≠0 then e else c:=⟨_,rfl⟩
 rw [←hE]
 obtain ⟨R,hR⟩:∃ R,R=if E=0 then yLT d l else []:=⟨_,rfl⟩
 rw [←hR]
 refine mkA zXG (base:=0) (fo rfl) (fun hfit=>?_)
 unfold F0 zOx
 refine goU ?_
 refine zAo (by repeat' constructor) (hF) ?_
 refine goW ?_
 refine zAa (by rfl) trivial (fun h0=>?_) (fun h0=>?_)
 ·have h1:e≠0:=by simpa using h0
  rw [if_pos h1] at hE
  rw [hE,if_neg h1] at hR
  rw [hE,hR]
  refine goW ?_
  exact zAA (by simp) ⟨zAv rfl trivial (.inr rfl),zAv rfl trivial (.inl rfl),rfl⟩
 have h1:e=0:=by simpa using h0
 subst h1
 rw [if_neg (by decide)] at hE
 refine goW ?_
 refine zAo (by repeat' constructor) (hP) ?_
 refine goW ?_
 refine zAa (by rfl) trivial (fun h2=>?_) (fun h2=>?_)
 ·have h3:c≠0:=by simpa using h2
  rw [hE,if_neg h3] at hR
  rw [hE,hR]
  refine goW ?_
  exact zAA (by simp) ⟨zAv rfl trivial (.inr rfl),zAv rfl trivial (.inl rfl),rfl⟩
 have h3:c=0:=by simpa using h2
 subst h3
 rw [hE,if_pos rfl] at hR
 rw [hE,hR]
 have hd:zAd d=0∧ix=idxOf d:=by
  unfold zFf at he
  by_cases hz:zAd d=0
  ·rw [if_neg (by rw [hz];decide)] at he
   split at he
   ·rename_i h;exact ⟨hz,(by simpa using h:idxOf d=ix).symm⟩
   ·cases he
  ·rw [if_pos hz] at he;exact absurd he.symm hz
 obtain ⟨hd,rfl⟩:=hd
 obtain ⟨d1,d2,d3⟩:=zBr hd
 have hcl6:∀ i,i < d.length→(d.getD i default).cls.length≤6:=fun i hi=>(zD9 (zJD d3 hi)).1
 have hcl64:∀ i,i < d.length→(d.getD i default).cls.length≤64:=fun i hi=>Nat.le_trans (hcl6 i hi) (by decide)
 have hl5:=(yK6 hc.symm).2.2.1
 refine goW ?_
 refine yNE fun b=>?_
 refine goW ?_
 refine zAn (fun s:Nat×List (Int×Int)=>[(30,.pv (iv s.1)),(27,.ov (.one (yFQ b s.2))),(75,.un),(76,.un),(10,.un),(12,.un),(13,.un),(31,.un),(36,.un),(37,.un),(38,.un),(39,.un),(51,.un)]) (fun s:Nat×List (Int×Int)=>l.length-s.1) (fun s:Nat×List (Int×Int)=>s.1≤l.length∧yLU d (fun n=>∃ k,k < s.1∧pM d (l.getD k default) n=true) (s.1 * 5000) s.2) ((0,[])) ?_ ⟨Nat.zero_le _,fun n _=>(by simp [zSG])⟩ ?_
 focus (exact leA)
 rintro ⟨i,M⟩ ⟨hi,hI⟩
 simp only at hi hI
 refine goW ?_
 refine zAa (by rfl) trivial (fun g1=>?_) (fun g1=>?_)
 ·have hil:i < l.length:=by simpa using g1
  have hx:=zVM l i hil
  obtain ⟨hp,hp0⟩:=yHm hc.symm hil
  obtain ⟨p,hpe⟩:∃ p,p=l.getD i default:=⟨_,rfl⟩
  rw [←hpe] at hx hp hp0
  have hS:=zXJ d d2 hcl6 p hp.parts'.1 (by
   have:=hp.parts'
   exact (GSs.get this.2.2.2.2 (p.steps.length-1) (by omega)).parts'.1)
  obtain ⟨s1,s2,s3⟩:=yIH d2 hcl64 hp
  have hMm:=fun n:Int=>zRY hM d [p] n
  have hlp:zBC [p]=.one (.sl 2 [ptV p]):=rfl
  unfold zCv at hMm
  rw [hlp] at hMm
  rw [zH8] at hx hS hMm
  obtain ⟨S,hSe⟩:∃ S,S=zQy d p:=⟨_,rfl⟩
  rw [←hSe] at hS s1 s2 s3
  try simp (maxSteps:=2000000) only [go_sem,hx]
  repeat with_reducible refine zAP ?_
  refine zAo (by repeat' constructor) (hS) ?_
  refine goW ?_
  have hmI:∀ j,j < S.length→S.getD j 0∈S:=fun j hj=>by
   rw [List.getD_eq_getElem?_getD,List.getElem?_eq_getElem hj];exact List.getElem_mem hj
  refine zAn (fun t:Nat×List (Int×Int)=>[(38,.pv (iv t.1)),(27,.ov (.one (yFQ b t.2))),(12,.un),(13,.un),(39,.un),(51,.un)]) (fun t:Nat×List (Int×Int)=>S.length-t.1) (fun t:Nat×List (Int×Int)=>t.1≤S.length∧yLU d (fun n=>(∃ k,k < i∧pM d (l.getD k default) n=true)∨∃ q,q < t.1∧S.getD q 0=(n:Int)∧pM d p n=true) ((i:Int) * 5000+t.1) t.2) ((0,M)) ?_ ⟨Nat.zero_le _,zM4 hI (by simp) (fun n _=>by simp)⟩ ?_
  focus (exact leA)
  rintro ⟨j,M'⟩ ⟨hj,hJ⟩
  simp only at hj hJ
  refine goW ?_
  refine zAa (by rfl) trivial (fun g2=>?_) (fun g2=>?_)
  ·have hjl:j < S.length:=by simpa using g2
   have hv:=zD3 S j hjl
   obtain ⟨m,hm,hme⟩:=s2 (S.getD j 0) (hmI j hjl)
   rw [hme] at hv
   have hMm:=hMm (m:Int)
   have hE0:zMO d [p] (m:Int)=0:=by
    unfold zMO zCB
    rw [if_neg (by rw [hd];decide),if_neg (by rw [hp0];decide)]
    simp [hd,hm]
    omega
   have hlm:(decide ((0:Int)=0)&&lM d [p] (m:Int).toNat)=pM d p m:=by
    rw [lM,lM];simp
   rw [hE0,hlm] at hMm
   obtain ⟨J1,J2,J3⟩:=hJ m hm
   try simp (maxSteps:=2000000) only [go_sem,hv]
   repeat with_reducible refine zAP ?_
   refine zAR (by repeat' constructor) (hMm) ?_
   refine goW ?_
   refine zAa (by rfl) trivial (fun g3=>?_) (fun g3=>?_)
   ·refine goW ?_
    refine yLt (b:=b) (l:=M') (w:=(m:Int)) rfl rfl rfl ?_
    refine goW ?_
    refine yLs (b:=b) (l:=M') (u:=(m:Int)) (n:=(zSG M' m).getD 0+1) rfl rfl rfl rfl (by decide) ?_
    refine goW ?_
    refine ⟨(j+1,yFs M' m ((zSG M' m).getD 0+1)),by simp only;omega,⟨by simp only;omega,?_⟩,?_⟩
    ·simp only
     have:=yJa hJ hm (q':=fun n=>(∃ k,k < i∧pM d (l.getD k default) n=true)∨∃ q,q < j+1∧S.getD q 0=(n:Int)∧pM d p n=true) (fun n hn=>by
      constructor
      ·rintro (h|⟨q,h1,h2,h3⟩)
       ·exact .inl (.inl h)
       ·by_cases hq:q=j
        ·right;rw [hq,hme] at h2;omega
        ·exact .inl (.inr ⟨q,by omega,h2,h3⟩)
      ·rintro ((h|⟨q,h1,h2,h3⟩)|rfl)
       ·exact .inl h
       ·exact .inr ⟨q,by omega,h2,h3⟩
       ·exact .inr ⟨j,by omega,hme,g3⟩)
     exact zM4 this (by omega) (fun n hn=>Iff.rfl)
    ·exact leA
   ·refine goW ?_
    refine ⟨(j+1,M'),by simp only;omega,⟨by simp only;omega,?_⟩,?_⟩
    ·simp only
     refine zM4 hJ (by omega) (fun n hn=>?_)
     constructor
     ·rintro (h|⟨q,h1,h2,h3⟩)
      ·exact .inl h
      ·by_cases hq:q=j
       ·exfalso
        rw [hq,hme] at h2
        have:m=n:=by omega
        rw [this,h3] at g3;cases g3
       ·exact .inr ⟨q,by omega,h2,h3⟩
     ·rintro (h|⟨q,h1,h2,h3⟩)
      ·exact .inl h
      ·exact .inr ⟨q,by omega,h2,h3⟩
    ·exact leA
  ·have hjl:j=S.length:=by simp at g2;omega
   refine goW ?_
   refine ⟨(i+1,M'),by simp only;omega,⟨by simp only;omega,?_⟩,?_⟩
   ·simp only
    refine zM4 hJ (by omega) (fun n hn=>?_)
    constructor
    ·rintro ⟨k,h1,h2⟩
     by_cases hk:k=i
     ·right
      rw [hk,←hpe] at h2
      have hin:=s1 n hn h2
      obtain ⟨q,hq,hqe⟩:=List.mem_iff_getElem.1 hin
      exact ⟨q,by omega,by rw [List.getD_eq_getElem?_getD,List.getElem?_eq_getElem hq];exact hqe,h2⟩
     ·exact .inl ⟨k,by omega,h2⟩
    ·rintro (⟨k,h1,h2⟩|⟨q,h1,h2,h3⟩)
     ·exact ⟨k,by omega,h2⟩
     ·exact ⟨i,by omega,by rw [←hpe];exact h3⟩
   ·exact leA
 ·have hil:i=l.length:=by simp at g1;omega
  refine goW ?_
  refine zAn (fun j:Nat=>[(62,.pv (iv j)),(15,.own zAs 1 (zAH (zXR d l j))),(27,.ov (.one (yFQ b M))),(16,.un),(63,.un),(68,.un)]) (fun j:Nat=>d.length-j) (fun j:Nat=>j≤d.length) (0) ?_ (Nat.zero_le _) ?_
  focus (exact leA)
  intro j hj
  have hal:=yAi (d:=d) (l:=l) j
  refine goW ?_
  refine zAa (by rfl) trivial (fun g2=>?_) (fun g2=>?_)
  ·have hjl:j < d.length:=by simpa using g2
   obtain ⟨J1,J2,J3⟩:=hI j hjl
   have hs:=zUT (d:=d) (l:=l) (k:=j)
   rw [hil] at J1
   have J1:0 < (zSG M (j:Int)).getD 0↔lM d l j=true:=J1.trans (yNJ d l j).symm
   refine goW ?_
   refine yLt (b:=b) (l:=M) (w:=(j:Int)) rfl rfl rfl ?_
   refine goW ?_
   refine zAa (by rfl) trivial (fun g3=>?_) (fun g3=>?_)
   ·have h3:lM d l j=true:=J1.1 (by simpa using g3)
    rw [if_pos h3] at hs
    refine goW ?_
    refine ⟨j+1,by omega,by omega,?_⟩
    simp (maxSteps:=2000000) only [go_sem,zAS,zBu,zCR,zAT]
    all_goals (repeat' (first|exact trivial|exact zBa (by omega)|exact zAX rfl|exact zBb rfl|exact zBB|exact le_refl _|refine And.intro ?_ ?_))
    refine zQp ?_
    rw [hs];simp [zAH]
   ·have h3:¬ lM d l j=true:=fun h=>by
     have h5:=J1.2 h
     have h6:¬ 0 < (zSG M (j:Int)).getD 0:=by simpa using g3
     exact h6 h5
    rw [if_neg h3] at hs
    refine goW ?_
    refine ⟨j+1,by omega,by omega,?_⟩
    simp (maxSteps:=2000000) only [go_sem,zAS,zBu,zCR,zAT]
    all_goals (repeat' (first|exact trivial|exact zBa (by omega)|exact zAX rfl|exact zBb rfl|exact zBB|exact le_refl _|refine And.intro ?_ ?_))
    refine zQp ?_
    rw [hs]
  ·have hjl:j=d.length:=by simp at g2;omega
   refine goW ?_
   rw [hjl]
   exact zAA (by simp) ⟨zAv rfl trivial (.inl rfl),zAv rfl trivial (.inl rfl),rfl⟩
end Go.Hx
