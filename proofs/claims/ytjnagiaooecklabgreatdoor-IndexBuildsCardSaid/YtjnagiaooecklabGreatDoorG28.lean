/-
  Walks of functions of the program: each contract says what the function computes, for every input that its conditions let by. No other condition.
-/
import Derived.Test.YtjnagiaooecklabGreatDoorG13
import Derived.Test.YtjnagiaooecklabGreatDoorG20
import Derived.Test.YtjnagiaooecklabGreatDoorG11
import Derived.Test.YtjnagiaooecklabGreatDoorG27
set_option linter.all false
set_option maxRecDepth 100000
set_option linter.unusedSimpArgs false
set_option maxHeartbeats 4000000
namespace Go.Hx
open Go.Proofs
variable [Glob] [GlobL]
attribute [local go_sem] zAt zAp zAn zAj ndV zAq zAk zB8 zA7
attribute [local go_sem] reduceCtorEq Nat.reduceAdd Nat.reduceEqDiff reduceIte Nat.reduceLeDiff Nat.reduceLT Nat.reduceSub
def zWc (d:List Nd) (ix:List Ent):PVal:=.agg [.sl 5 (zNz d),.sl 3 (zCj ix)]
def yCn (d:List Nd) (ix:List Ent):Int:=if zAy d≠0 then zAy d else if idxOf d==ix then 0 else 1
theorem zYl (d:List Nd) (ix:List Ent):Contract Tryz.prog zGR [.val (zWc d ix)] {res:=.val (iv (yCn d ix))}:=by
 have hB:=zEh d
 have hE:=zZU (idxOf d) ix
 unfold yCn zWc
 obtain ⟨e,he⟩:∃ e,e=zAy d:=⟨_,rfl⟩
 rw [←he] at hB ⊢
 unfold zHz at hB
 refine mkA zVF (base:=0) (fo rfl) (fun hfit=>?_)
 unfold F0 zNP
 simp (maxSteps:=2000000) only [zAJ,List.set_cons_succ,List.set_cons_zero,List.map_cons,List.map_nil,zAH,zAa,ioOf,List.length_cons,List.length_nil,Nat.reduceAdd,Nat.reduceSub,List.replicate,List.cons_append,List.nil_append]
 try simp (maxSteps:=2000000) only [go_sem]
 repeat with_reducible refine zAb ?_
 refine zCi (by repeat' constructor) (hB) ?_
 try simp (maxSteps:=2000000) only [go_sem]
 repeat with_reducible refine zAb ?_
 refine zAc (by rfl) trivial (fun h0=>?_) (fun h0=>?_)
 ·have h1:e≠0:=by simpa using h0
  rw [if_pos h1]
  try simp (maxSteps:=2000000) only [go_sem]
  repeat with_reducible refine zAb ?_
  exact zAd rfl trivial (.inl rfl)
 have h1:e=0:=by simpa using h0
 subst h1
 rw [if_neg (by decide)]
 try simp (maxSteps:=2000000) only [go_sem]
 repeat with_reducible refine zAb ?_
 refine zAw (by repeat' constructor) (hE) ?_
 try simp (maxSteps:=2000000) only [go_sem]
 repeat with_reducible refine zAb ?_
 refine zAc (by rfl) trivial (fun h2=>?_) (fun h2=>?_)
 ·have h3:(idxOf d==ix)=false:=by simpa using h2
  rw [h3]
  try simp (maxSteps:=2000000) only [go_sem]
  repeat with_reducible refine zAb ?_
  exact zAd rfl trivial (.inl rfl)
 ·have h3:(idxOf d==ix)=true:=by simpa using h2
  rw [h3]
  try simp (maxSteps:=2000000) only [go_sem]
  repeat with_reducible refine zAb ?_
  exact zAd rfl trivial (.inl rfl)
def yH2 (d:List Nd) (q:Nat→Prop) (B:Int) (M:List (Int×Int)):Prop:=∀ n:Nat,n < d.length→(0 < (zRf M n).getD 0↔q n)∧0≤(zRf M n).getD 0∧(zRf M n).getD 0≤B
theorem yFr {d:List Nd} {q q':Nat→Prop} {B:Int} {M:List (Int×Int)} (h:yH2 d q B M) {m:Nat} (hm:m < d.length) (hq:∀ n,n < d.length→(q' n↔q n∨n=m)):yH2 d q' (B+1) (yCd M m ((zRf M m).getD 0+1)):=by
 intro n hn
 obtain ⟨h1,h2,h3⟩:=h n hn
 obtain ⟨g1,g2,g3⟩:=h m hm
 rw [zIO]
 by_cases e:(n:Int)=m
 ·have e':n=m:=by omega
  rw [if_pos e,hq n hn]
  subst e'
  simp only [Option.getD_some]
  exact ⟨⟨fun _=>(by simp),fun _=>(by omega)⟩,by omega,by omega⟩
 ·have e':n≠m:=fun h=>e (by rw [h])
  rw [if_neg e,hq n hn,h1]
  refine ⟨⟨.inl,fun h=>h.resolve_right e'⟩,h2,by omega⟩
theorem zMf {d:List Nd} {q q':Nat→Prop} {B B':Int} {M:List (Int×Int)} (h:yH2 d q B M) (hB:B≤B') (hq:∀ n,n < d.length→(q' n↔q n)):yH2 d q' B' M:=by
 intro n hn
 obtain ⟨h1,h2,h3⟩:=h n hn
 rw [hq n hn]
 exact ⟨h1,h2,by omega⟩
theorem yDU {l:List Pt} (h:zCK l=0) {i:Nat} (hi:i < l.length):GP (l.getD i default) 1∧zCK [l.getD i default]=0:=by
 have hG:=yHh h
 have hp:=hG.2.2.2.get i hi
 refine ⟨hp,yDw ⟨by decide,by simp,by simp,?_⟩⟩
 obtain ⟨h1,h2,h3,h4⟩:=hp
 exact ⟨by simp only [yCs,h1,Bool.or_self],by simp only [yER,h2,Bool.or_self],by simp only [yET,h3,Bool.or_self],by simp only [yD9,h4,Bool.or_self]⟩
theorem yJV (d:List Nd) (l:List Pt) (n:Nat):lM d l n=true↔∃ k,k < l.length∧pM d (l.getD k default) n=true:=by
 rw [yC9,List.any_eq_true]
 constructor
 ·rintro ⟨p,hp,h⟩
  obtain ⟨k,hk,rfl⟩:=List.mem_iff_getElem.1 hp
  exact ⟨k,hk,by simpa [hk] using h⟩
 ·rintro ⟨k,hk,h⟩
  exact ⟨l.getD k default,zE8 hk,h⟩
def yFs (d:List Nd) (ix:List Ent) (l:List Pt):Int:=if yCn d ix≠0 then yCn d ix else zCK l
theorem zYm (hM:zOy) (d:List Nd) (ix:List Ent) (l:List Pt):Contract Tryz.prog zGQ [.val (zWc d ix),.val (zBD l)] {res:=.tup [.one (.sl 1 (zAS (if yFs d ix l=0 then yLn d l else []))),iv (yFs d ix l)]}:=by
 have hF:=zYl d ix
 have hP:=zNS l
 unfold yFs
 obtain ⟨e,he⟩:∃ e,e=yCn d ix:=⟨_,rfl⟩
 rw [←he] at hF ⊢
 unfold zWc at hF ⊢
 unfold zBD at hP ⊢
 obtain ⟨c,hc⟩:∃ c,c=zCK l:=⟨_,rfl⟩
 rw [←hc] at hP ⊢
 obtain ⟨E,hE⟩:∃ E,E=if e≠0 then e else c:=⟨_,rfl⟩
 rw [←hE]
 obtain ⟨R,hR⟩:∃ R,R=if E=0 then yLn d l else []:=⟨_,rfl⟩
 rw [←hR]
 refine mkA zVQ (base:=0) (fo rfl) (fun hfit=>?_)
 unfold F0 zNQ
 simp (maxSteps:=2000000) only [zAJ,List.set_cons_succ,List.set_cons_zero,List.map_cons,List.map_nil,zAH,zAa,ioOf,List.length_cons,List.length_nil,Nat.reduceAdd,Nat.reduceSub,List.replicate,List.cons_append,List.nil_append]
 try simp (maxSteps:=2000000) only [go_sem]
 repeat with_reducible refine zAb ?_
 refine zAw (by repeat' constructor) (hF) ?_
 try simp (maxSteps:=2000000) only [go_sem]
 repeat with_reducible refine zAb ?_
 refine zAc (by rfl) trivial (fun h0=>?_) (fun h0=>?_)
 ·have h1:e≠0:=by simpa using h0
  rw [if_pos h1] at hE
  rw [hE,if_neg h1] at hR
  rw [hE,hR]
  try simp (maxSteps:=2000000) only [go_sem]
  repeat with_reducible refine zAb ?_
  exact zBq (by simp) ⟨zA0 rfl trivial (.inr rfl),zA0 rfl trivial (.inl rfl),rfl⟩
 have h1:e=0:=by simpa using h0
 subst h1
 rw [if_neg (by decide)] at hE
 try simp (maxSteps:=2000000) only [go_sem]
 repeat with_reducible refine zAb ?_
 refine zAw (by repeat' constructor) (hP) ?_
 try simp (maxSteps:=2000000) only [go_sem]
 repeat with_reducible refine zAb ?_
 refine zAc (by rfl) trivial (fun h2=>?_) (fun h2=>?_)
 ·have h3:c≠0:=by simpa using h2
  rw [hE,if_neg h3] at hR
  rw [hE,hR]
  try simp (maxSteps:=2000000) only [go_sem]
  repeat with_reducible refine zAb ?_
  exact zBq (by simp) ⟨zA0 rfl trivial (.inr rfl),zA0 rfl trivial (.inl rfl),rfl⟩
 have h3:c=0:=by simpa using h2
 subst h3
 rw [hE,if_pos rfl] at hR
 rw [hE,hR]
 have hd:zAy d=0∧ix=idxOf d:=by
  unfold yCn at he
  by_cases hz:zAy d=0
  ·rw [if_neg (by rw [hz];decide)] at he
   split at he
   ·rename_i h;exact ⟨hz,(by simpa using h:idxOf d=ix).symm⟩
   ·cases he
  ·rw [if_pos hz] at he;exact absurd he.symm hz
 obtain ⟨hd,rfl⟩:=hd
 obtain ⟨d1,d2,d3⟩:=zES hd
 have hcl6:∀ i,i < d.length→(d.getD i default).cls.length≤6:=fun i hi=>(zDW (zGx d3 hi)).1
 have hcl64:∀ i,i < d.length→(d.getD i default).cls.length≤64:=fun i hi=>Nat.le_trans (hcl6 i hi) (by decide)
 have hl5:=(yHh hc.symm).2.2.1
 try simp (maxSteps:=2000000) only [go_sem]
 repeat with_reducible refine zAb ?_
 refine yJQ fun b=>?_
 try simp (maxSteps:=2000000) only [go_sem]
 repeat with_reducible refine zAb ?_
 refine zAv (fun s:Nat×List (Int×Int)=>[(30,.pv (iv s.1)),(27,.ov (.one (yCt b s.2))),(75,.un),(76,.un),(10,.un),(12,.un),(13,.un),(31,.un),(36,.un),(37,.un),(38,.un),(39,.un),(51,.un)]) (fun s:Nat×List (Int×Int)=>l.length-s.1) (fun s:Nat×List (Int×Int)=>s.1≤l.length∧yH2 d (fun n=>∃ k,k < s.1∧pM d (l.getD k default) n=true) (s.1 * 5000) s.2) ((0,[])) ?_ ⟨Nat.zero_le _,fun n _=>(by simp [zRf])⟩ ?_
 focus (simp (maxSteps:=2000000) only [go_sem,zAf,zAl,zAz,zAg];all_goals (repeat' (first|exact trivial|exact zAm (by omega)|exact zAi rfl|exact zAx rfl|exact zAs|exact le_refl _|refine And.intro ?_ ?_)))
 rintro ⟨i,M⟩ ⟨hi,hI⟩
 simp only at hi hI
 try simp (maxSteps:=2000000) only [go_sem]
 repeat with_reducible refine zAb ?_
 refine zAc (by rfl) trivial (fun g1=>?_) (fun g1=>?_)
 ·have hil:i < l.length:=by simpa using g1
  have hx:=zUb l i hil
  obtain ⟨hp,hp0⟩:=yDU hc.symm hil
  obtain ⟨p,hpe⟩:∃ p,p=l.getD i default:=⟨_,rfl⟩
  rw [←hpe] at hx hp hp0
  have hS:=zVU d d2 hcl6 p hp.parts'.1 (by
   have:=hp.parts'
   exact (GSs.get this.2.2.2.2 (p.steps.length-1) (by omega)).parts'.1)
  obtain ⟨s1,s2,s3⟩:=yE0 d2 hcl64 hp
  have hMm:=fun n:Int=>zQX hM d [p] n
  have hlp:zBD [p]=.one (.sl 2 [ptV p]):=rfl
  unfold zHz at hMm
  rw [hlp] at hMm
  rw [zHB] at hx hS hMm
  obtain ⟨S,hSe⟩:∃ S,S=zPu d p:=⟨_,rfl⟩
  rw [←hSe] at hS s1 s2 s3
  try simp (maxSteps:=2000000) only [go_sem,hx]
  repeat with_reducible refine zAb ?_
  refine zAw (by repeat' constructor) (hS) ?_
  try simp (maxSteps:=2000000) only [go_sem]
  repeat with_reducible refine zAb ?_
  have hmI:∀ j,j < S.length→S.getD j 0∈S:=fun j hj=>by
   rw [List.getD_eq_getElem?_getD,List.getElem?_eq_getElem hj];exact List.getElem_mem hj
  refine zAv (fun t:Nat×List (Int×Int)=>[(38,.pv (iv t.1)),(27,.ov (.one (yCt b t.2))),(12,.un),(13,.un),(39,.un),(51,.un)]) (fun t:Nat×List (Int×Int)=>S.length-t.1) (fun t:Nat×List (Int×Int)=>t.1≤S.length∧yH2 d (fun n=>(∃ k,k < i∧pM d (l.getD k default) n=true)∨∃ q,q < t.1∧S.getD q 0=(n:Int)∧pM d p n=true) ((i:Int) * 5000+t.1) t.2) ((0,M)) ?_ ⟨Nat.zero_le _,zMf hI (by simp) (fun n _=>by simp)⟩ ?_
  focus (simp (maxSteps:=2000000) only [go_sem,zAf,zAl,zAz,zAg];all_goals (repeat' (first|exact trivial|exact zAm (by omega)|exact zAi rfl|exact zAx rfl|exact zAs|exact le_refl _|refine And.intro ?_ ?_)))
  rintro ⟨j,M'⟩ ⟨hj,hJ⟩
  simp only at hj hJ
  try simp (maxSteps:=2000000) only [go_sem]
  repeat with_reducible refine zAb ?_
  refine zAc (by rfl) trivial (fun g2=>?_) (fun g2=>?_)
  ·have hjl:j < S.length:=by simpa using g2
   have hv:=zEu S j hjl
   obtain ⟨m,hm,hme⟩:=s2 (S.getD j 0) (hmI j hjl)
   rw [hme] at hv
   have hMm:=hMm (m:Int)
   have hE0:zL0 d [p] (m:Int)=0:=by
    unfold zL0 yDs
    rw [if_neg (by rw [hd];decide),if_neg (by rw [hp0];decide)]
    simp [hd,hm]
    omega
   have hlm:(decide ((0:Int)=0)&&lM d [p] (m:Int).toNat)=pM d p m:=by
    rw [lM,lM];simp
   rw [hE0,hlm] at hMm
   obtain ⟨J1,J2,J3⟩:=hJ m hm
   try simp (maxSteps:=2000000) only [go_sem,hv]
   repeat with_reducible refine zAb ?_
   refine zCi (by repeat' constructor) (hMm) ?_
   try simp (maxSteps:=2000000) only [go_sem]
   repeat with_reducible refine zAb ?_
   refine zAc (by rfl) trivial (fun g3=>?_) (fun g3=>?_)
   ·try simp (maxSteps:=2000000) only [go_sem]
    repeat with_reducible refine zAb ?_
    refine yHC (b:=b) (l:=M') (w:=(m:Int)) rfl rfl rfl ?_
    try simp (maxSteps:=2000000) only [go_sem]
    repeat with_reducible refine zAb ?_
    refine yHB (b:=b) (l:=M') (u:=(m:Int)) (n:=(zRf M' m).getD 0+1) rfl rfl rfl rfl (by decide) ?_
    try simp (maxSteps:=2000000) only [go_sem]
    repeat with_reducible refine zAb ?_
    refine ⟨(j+1,yCd M' m ((zRf M' m).getD 0+1)),by simp only;omega,⟨by simp only;omega,?_⟩,?_⟩
    ·simp only
     have:=yFr hJ hm (q':=fun n=>(∃ k,k < i∧pM d (l.getD k default) n=true)∨∃ q,q < j+1∧S.getD q 0=(n:Int)∧pM d p n=true) (fun n hn=>by
      constructor
      ·rintro (h|⟨q,h1,h2,h3⟩)
       ·exact .inl (.inl h)
       ·by_cases hq:q=j
        ·right;rw [hq,hme] at h2;omega
        ·exact .inl (.inr ⟨q,by omega,h2,h3⟩)
      ·rintro ((h|⟨q,h1,h2,h3⟩)|rfl)
       ·exact .inl h
       ·exact .inr ⟨q,by omega,h2,h3⟩
       ·exact .inr ⟨j,by omega,hme,g3⟩)
     exact zMf this (by omega) (fun n hn=>Iff.rfl)
    ·simp (maxSteps:=2000000) only [go_sem,zAf,zAl,zAz,zAg]
     all_goals (repeat' (first|exact trivial|exact zAm (by omega)|exact zAi rfl|exact zAx rfl|exact zAs|exact le_refl _|refine And.intro ?_ ?_))
   ·try simp (maxSteps:=2000000) only [go_sem]
    repeat with_reducible refine zAb ?_
    refine ⟨(j+1,M'),by simp only;omega,⟨by simp only;omega,?_⟩,?_⟩
    ·simp only
     refine zMf hJ (by omega) (fun n hn=>?_)
     constructor
     ·rintro (h|⟨q,h1,h2,h3⟩)
      ·exact .inl h
      ·by_cases hq:q=j
       ·exfalso
        rw [hq,hme] at h2
        have:m=n:=by omega
        rw [this,h3] at g3;cases g3
       ·exact .inr ⟨q,by omega,h2,h3⟩
     ·rintro (h|⟨q,h1,h2,h3⟩)
      ·exact .inl h
      ·exact .inr ⟨q,by omega,h2,h3⟩
    ·simp (maxSteps:=2000000) only [go_sem,zAf,zAl,zAz,zAg]
     all_goals (repeat' (first|exact trivial|exact zAm (by omega)|exact zAi rfl|exact zAx rfl|exact zAs|exact le_refl _|refine And.intro ?_ ?_))
  ·have hjl:j=S.length:=by simp at g2;omega
   try simp (maxSteps:=2000000) only [go_sem]
   repeat with_reducible refine zAb ?_
   refine ⟨(i+1,M'),by simp only;omega,⟨by simp only;omega,?_⟩,?_⟩
   ·simp only
    refine zMf hJ (by omega) (fun n hn=>?_)
    constructor
    ·rintro ⟨k,h1,h2⟩
     by_cases hk:k=i
     ·right
      rw [hk,←hpe] at h2
      have hin:=s1 n hn h2
      obtain ⟨q,hq,hqe⟩:=List.mem_iff_getElem.1 hin
      exact ⟨q,by omega,by rw [List.getD_eq_getElem?_getD,List.getElem?_eq_getElem hq];exact hqe,h2⟩
     ·exact .inl ⟨k,by omega,h2⟩
    ·rintro (⟨k,h1,h2⟩|⟨q,h1,h2,h3⟩)
     ·exact ⟨k,by omega,h2⟩
     ·exact ⟨i,by omega,by rw [←hpe];exact h3⟩
   ·simp (maxSteps:=2000000) only [go_sem,zAf,zAl,zAz,zAg]
    all_goals (repeat' (first|exact trivial|exact zAm (by omega)|exact zAi rfl|exact zAx rfl|exact zAs|exact le_refl _|refine And.intro ?_ ?_))
 ·have hil:i=l.length:=by simp at g1;omega
  try simp (maxSteps:=2000000) only [go_sem]
  repeat with_reducible refine zAb ?_
  refine zAv (fun j:Nat=>[(62,.pv (iv j)),(15,.own zAC 1 (zAS (zXZ d l j))),(27,.ov (.one (yCt b M))),(16,.un),(63,.un),(68,.un)]) (fun j:Nat=>d.length-j) (fun j:Nat=>j≤d.length) (0) ?_ (Nat.zero_le _) ?_
  focus (simp (maxSteps:=2000000) only [go_sem,zAf,zAl,zAz,zAg];all_goals (repeat' (first|exact trivial|exact zAm (by omega)|exact zAi rfl|exact zAx rfl|exact zAs|exact le_refl _|refine And.intro ?_ ?_)))
  intro j hj
  have hal:=yDA (d:=d) (l:=l) j
  try simp (maxSteps:=2000000) only [go_sem]
  repeat with_reducible refine zAb ?_
  refine zAc (by rfl) trivial (fun g2=>?_) (fun g2=>?_)
  ·have hjl:j < d.length:=by simpa using g2
   obtain ⟨J1,J2,J3⟩:=hI j hjl
   have hs:=yCc (d:=d) (l:=l) (k:=j)
   rw [hil] at J1
   have J1:0 < (zRf M (j:Int)).getD 0↔lM d l j=true:=J1.trans (yJV d l j).symm
   try simp (maxSteps:=2000000) only [go_sem]
   repeat with_reducible refine zAb ?_
   refine yHC (b:=b) (l:=M) (w:=(j:Int)) rfl rfl rfl ?_
   try simp (maxSteps:=2000000) only [go_sem]
   repeat with_reducible refine zAb ?_
   refine zAc (by rfl) trivial (fun g3=>?_) (fun g3=>?_)
   ·have h3:lM d l j=true:=J1.1 (by simpa using g3)
    rw [if_pos h3] at hs
    try simp (maxSteps:=2000000) only [go_sem]
    repeat with_reducible refine zAb ?_
    refine ⟨j+1,by omega,by omega,?_⟩
    simp (maxSteps:=2000000) only [go_sem,zAf,zAl,zAz,zAg]
    all_goals (repeat' (first|exact trivial|exact zAm (by omega)|exact zAi rfl|exact zAx rfl|exact zAs|exact le_refl _|refine And.intro ?_ ?_))
    refine yFU ?_
    rw [hs];simp [zAS]
   ·have h3:¬ lM d l j=true:=fun h=>by
     have h5:=J1.2 h
     have h6:¬ 0 < (zRf M (j:Int)).getD 0:=by simpa using g3
     exact h6 h5
    rw [if_neg h3] at hs
    try simp (maxSteps:=2000000) only [go_sem]
    repeat with_reducible refine zAb ?_
    refine ⟨j+1,by omega,by omega,?_⟩
    simp (maxSteps:=2000000) only [go_sem,zAf,zAl,zAz,zAg]
    all_goals (repeat' (first|exact trivial|exact zAm (by omega)|exact zAi rfl|exact zAx rfl|exact zAs|exact le_refl _|refine And.intro ?_ ?_))
    refine yFU ?_
    rw [hs]
  ·have hjl:j=d.length:=by simp at g2;omega
   try simp (maxSteps:=2000000) only [go_sem]
   repeat with_reducible refine zAb ?_
   rw [hjl]
   exact zBq (by simp) ⟨zA0 rfl trivial (.inl rfl),zA0 rfl trivial (.inl rfl),rfl⟩
end Go.Hx
