/-
  Walks of functions of the program over an abstract layer, and the laws that they use: each contract says what the function computes, for every input that its conditions let by. No other condition.
-/
import Derived.Test.YtjnagiaooecklabGreatDoorG11
import Derived.Test.YtjnagiaooecklabGreatDoorG20
import Derived.Test.YtjnagiaooecklabGreatDoorG15
import Derived.Test.YtjnagiaooecklabGreatDoorG14
import Derived.Test.YtjnagiaooecklabGreatDoorG12
set_option linter.all false
section
set_option maxRecDepth 100000
set_option maxHeartbeats 4000000
namespace Go.Hx
open Go.Proofs
variable [Glob] [GlobL]
attribute [local go_sem] zAh zAj zAg zAd ndV zAm zAn zBZ zAD zAO zAQ zJi zTE zTF List.length_drop List.length_take List.take_length List.length_nil
attribute [local go_sem] reduceCtorEq Nat.reduceAdd Nat.reduceEqDiff reduceIte Nat.reduceLeDiff Nat.reduceLT Nat.reduceSub
theorem zBT {α:Type} {l:List α} {i:Nat} (d:α) (h:i < l.length):l.take (i+1)=l.take i++[l.getD i d]:=by
 rw [List.take_succ_eq_append_getElem h];simp [h]
theorem ySf {l:List Pt} {i:Nat} (hi:i < l.length) {N:Nat} (h:SizeOf.sizeOf l≤N+1):SizeOf.sizeOf (l.getD i default).steps≤N:=by
 have h1:=zUu hi
 have h2:=zDs (l.getD i default)
 omega
theorem yIT:∀ N,yXa Tryz.prog N
 |0=>fun l h _=>by have:=zFa l;omega
 |N+1=>fun l hN hsh=>by
  have ih:=yIT N
  obtain ⟨hlen,hshl⟩:=zOj hsh
  refine mkA yFZ (base:=0) (fo rfl) (fun hfit=>?_)
  unfold F0 zQM
  refine goU ?_
  refine zAc (fun i:Nat=>[(11,.pv (iv i)),(3,.own zAx 2 (zOw (zQN (l.take i)))),(5,.un),(6,.un),(8,.un),(12,.un),(20,.un),(21,.un),(22,.un),(23,.un),(41,.un),(42,.un),(43,.un),(44,.un),(45,.un),(46,.un)]) (fun i:Nat=>l.length-i) (fun i:Nat=>i≤l.length) (0) ?_ (Nat.zero_le _) ?_
  focus (exact leA)
  rintro i hi
  refine goW ?_
  refine zAa (by rfl) trivial (fun h2=>?_) (fun h2=>?_)
  ·have hil:i < l.length:=by simp at h2;omega
   obtain ⟨p,hp⟩:∃ p,p=l.getD i default:=⟨_,rfl⟩
   have e1:=zBH l i hil
   rw [←hp,zA2] at e1
   have hpl:=ySf hil hN
   have hps:=hshl i hil
   rw [←hp] at hpl hps
   obtain ⟨hs1,hs2,hs3⟩:=zOi hps
   have hon:(zQN (l.take i)).length=i:=by simp [zGG];omega
   try simp (maxSteps:=2000000) only [go_sem,e1]
   repeat with_reducible refine zAt ?_
   refine zAe (by repeat' constructor) ((yKl p.links (by omega)).fresh) ?_
   refine goW ?_
   refine zAc (fun j:Nat=>[(22,.pv (iv j)),(43,.own zBz 2 (yI6 (yGx (p.steps.take j)))),(8,.un),(23,.un),(45,.un),(46,.un)]) (fun j:Nat=>p.steps.length-j) (fun j:Nat=>j≤p.steps.length) (0) ?_ (Nat.zero_le _) ?_
   focus (exact leA)
   rintro j hj
   refine goW ?_
   refine zAa (by rfl) trivial (fun h4=>?_) (fun h4=>?_)
   ·have hjl:j < p.steps.length:=by simp at h4;omega
    obtain ⟨q,hq⟩:∃ q,q=p.steps.getD j default:=⟨_,rfl⟩
    have e2:=zCB p.steps j hjl
    rw [←hq,zBg] at e2
    have hsj:=hs3 j hjl
    have hszq:=zUt hjl
    rw [←hq] at hsj hszq
    have hon2:(yGx (p.steps.take j)).length=j:=by simp [zLf];omega
    have hst:=yQy ih q (by omega) hsj
    rw [zBg,yQw] at hst
    try simp (maxSteps:=2000000) only [go_sem,e2]
    repeat with_reducible refine zAt ?_
    refine zAe (by repeat' constructor) (hst) ?_
    refine goW ?_
    refine goW ?_
    refine ⟨j+1,by omega,by omega,?_⟩
    simp (maxSteps:=2000000) only [go_sem,zAu,zAE,zA9,zAv]
    all_goals (repeat' (first|exact trivial|exact zAI (by omega)|exact zAB rfl|exact zAU rfl|exact zAW|exact le_refl _|refine And.intro ?_ ?_))
    refine zBk ?_
    rw [zBT default hjl,←hq]
    simp only [zLf,List.map_append,ySd,List.map_cons,List.map_nil,yI6,yQw]
   ·have hjl:j=p.steps.length:=by simp at h4;omega
    subst hjl
    rw [List.take_length]
    refine goW ?_
    refine ⟨i+1,by omega,by omega,?_⟩
    simp (maxSteps:=2000000) only [go_sem,zAu,zAE,zA9,zAv]
    all_goals (repeat' (first|exact trivial|exact zAI (by omega)|exact zAB rfl|exact zAU rfl|exact zAW|exact le_refl _|refine And.intro ?_ ?_))
    refine zBk ?_
    rw [zBT default hil,←hp]
    simp only [zGG,List.map_append,yMW,List.map_cons,List.map_nil,zOw,yB5,yS6]
    rfl
  ·have hil:i=l.length:=by simp at h2;omega
   subst hil
   rw [List.take_length]
   refine goW ?_
   refine zA3 (by repeat' constructor) (yAH zAT (zQN l) (by simp [zGG];omega) zXr) ?_
   refine goW ?_
   exact zDb rfl
theorem yIU (l:List Pt) (h:shL l=true):Contract Tryz.prog zEA [.val (.one (.sl 2 (zBx l)))] {res:=.own zAx 2 (zOw (onL l))}:=yIT _ l (Nat.le_refl _) h
def lX:List Pt×Bool→PV
 |(l,true)=>fr (.sl 2 (zOw l))
 |(l,false)=>.sl 2 (zBx l)
theorem yXc:∀ (x:List Pt×Bool),Dn (lX x) (.sl 2 (zBx x.1))
 |(_,true)=>Dn.fsl (yB6 _)
 |(_,false)=>Dn.refl _
theorem zOm (l:List Pt):Contract Tryz.prog zDM [.val (.one (.sl 2 (zBx l)))] {res:=.tup [.one (if zCK l=0 then fr (.sl 2 (zOw (plL l))) else .sl 2 []),iv (zCK l)]}:=by
 have hc:=yIq l
 unfold zBZ at hc
 refine mkA yAG (base:=0) (fo rfl) (fun hfit=>?_)
 unfold F0 zOc
 refine goU ?_
 refine zAe (by repeat' constructor) (hc) ?_
 refine goW ?_
 refine zAa (by rfl) trivial (fun h=>?_) (fun h=>?_)
 ·have h2:¬ zCK l=0:=by simpa using h
  rw [if_neg h2]
  refine goW ?_
  exact zAL (by simp) ⟨zA5 rfl trivial (.inr rfl),zA5 rfl trivial (.inl rfl),rfl⟩
 have h2:zCK l=0:=by simpa using h
 rw [if_pos h2,h2]
 refine goW ?_
 refine zAc (fun x:List Pt×Bool=>[(0,.pv (.one (lX x))),(2,.un),(3,.un),(5,.un),(15,.un)]) (fun x:List Pt×Bool=>zJg x.1) (fun x:List Pt×Bool=>shL x.1=true∧plL x.1=plL l) ((l,false)) ?_ ⟨yU3 l h2,rfl⟩ ?_
 focus (exact leA)
 rintro ⟨m,q⟩ ⟨hsh,hpl⟩
 simp only at hsh hpl
 have ho:=(yIU m hsh).fresh.arg (al:=[.val (.one (lX (m,q)))]) ⟨yXc (m,q),trivial⟩
 have hc:=yB2 zAT m (onL m) (fun i hi hj=>by
  have:=zXr (m.getD i default) ((onL m).getD i default)
  rwa [zA2,zA2] at this)
 have hc:=hc.arg (al:=[.val (.one (lX (m,q))),.val (.one (fr (.sl 2 (zOw (onL m))))),.val (.one (.clo zAT []))]) ⟨yXc (m,q),Dn.fsl (yB6 _),Dn.refl _,trivial⟩
 cases q
 all_goals
  simp only [lX] at ho hc ⊢
  refine goW ?_
  refine zAe (by repeat' constructor) (ho) ?_
  refine goW ?_
  refine zAe (by repeat' constructor) (hc) ?_
  refine goW ?_
  refine zAa (by rfl) trivial (fun h4=>?_) (fun h4=>?_)
  ·refine goW ?_
   rw [←hpl,yQr h4]
   exact zAL (by simp) ⟨zA5 rfl trivial (.inl rfl),zA5 rfl trivial (.inl rfl),rfl⟩
  ·obtain ⟨g1,g2⟩:=yS9 h4
   refine goW ?_
   refine ⟨(onL m,true),g2,⟨yIM m hsh,by rw [←g1];exact hpl⟩,?_⟩
   exact leA
theorem yF6 (l:List Pt):Contract Tryz.prog zDM [.val (.one (.sl 2 (zBx l)))] {res:=.tup [.one (.sl 2 (zBx (if zCK l=0 then plL l else []))),iv (zCK l)]}:=by
 refine (zOm l).dnt ⟨?_,DnV.refl _,trivial⟩
 by_cases h:zCK l=0
 ·rw [if_pos h,if_pos h];exact Dn.fsl (yB6 _)
 ·rw [if_neg h,if_neg h];exact Dn.refl _
end Go.Hx
end

section
set_option maxRecDepth 100000
set_option maxHeartbeats 4000000
namespace Go.Hx
open Go.Proofs
variable [Glob] [GlobL]
attribute [local go_sem] zAh zAj zAg zAd ndV zAm zAn zBZ zAD zAO zAQ
end Go.Hx
end

section
set_option maxRecDepth 100000
set_option maxHeartbeats 4000000
namespace Go.Hx
open Go.Proofs
variable [Glob] [GlobL]
attribute [local go_sem] zAh zAj zAg zAd ndV zAm zAn zBZ zAD zAO zAQ List.nil_append
attribute [local go_sem] reduceCtorEq Nat.reduceAdd Nat.reduceEqDiff reduceIte Nat.reduceLeDiff Nat.reduceLT Nat.reduceSub
theorem zTG:∀ (N:Nat) (l:List Pt),SizeOf.sizeOf l≤N→shL l=true→Contract Tryz.prog zBB [.val (.one (.sl 2 (zBx l)))] {res:=.own zAx 2 (zBx l)}
 |0,l,h,_=>by have:=zFa l;omega
 |N+1,l,hN,hsh=>by
  have ih:=zTG N
  obtain ⟨hlen,hshl⟩:=zOj hsh
  refine mkA yBa (base:=0) (fo rfl) (fun hfit=>?_)
  unfold F0 zOp
  refine goU ?_
  refine zAc (fun i:Nat=>[(4,.pv (iv i)),(3,.own zAx 2 (zBx (l.take i))),(5,.un),(6,.un),(7,.un),(8,.un),(9,.un),(13,.un),(31,.un),(55,.un),(91,.un),(92,.un),(93,.un),(94,.un),(95,.un),(96,.un),(97,.un),(98,.un),(99,.un),(100,.un)]) (fun i:Nat=>l.length-i) (fun i:Nat=>i≤l.length) (0) ?_ (Nat.zero_le _) ?_
  focus (exact leA)
  rintro i hi
  refine goW ?_
  refine zAa (by rfl) trivial (fun h2=>?_) (fun h2=>?_)
  ·have hil:i < l.length:=by simp at h2;omega
   obtain ⟨p,hp⟩:∃ p,p=l.getD i default:=⟨_,rfl⟩
   have e1:=zBH l i hil
   have hps:=hshl i hil
   have hpl:SizeOf.sizeOf p.steps≤N:=by
    have h3:=zUu hil
    have h4:=zDs p
    rw [←hp] at h3
    omega
   rw [←hp,zA2] at e1
   rw [←hp] at hps
   obtain ⟨hs1,hs2,hs3⟩:=zOi hps
   have hln:(l.take i).length=i:=by simp;omega
   try simp (maxSteps:=2000000) only [go_sem,e1]
   repeat with_reducible refine zAt ?_
   refine zAc (fun j:Nat=>[(6,.pv (iv j)),(91,.own zBz 2 (zFG (p.steps.take j))),(7,.un),(8,.un),(9,.un),(31,.un),(55,.un),(93,.un),(94,.un),(95,.un),(96,.un),(97,.un),(98,.un),(99,.un),(100,.un)]) (fun j:Nat=>p.steps.length-j) (fun j:Nat=>j≤p.steps.length) (0) ?_ (Nat.zero_le _) ?_
   focus (exact leA)
   rintro j hj
   try simp (maxSteps:=2000000) only [go_sem,e1]
   repeat with_reducible refine zAt ?_
   refine zAa (by rfl) trivial (fun h4=>?_) (fun h4=>?_)
   ·have hjl:j < p.steps.length:=by simp at h4;omega
    obtain ⟨q,hq⟩:∃ q,q=p.steps.getD j default:=⟨_,rfl⟩
    have e2:=zCB p.steps j hjl
    have hsj:=hs3 j hjl
    have hszq:=zUt hjl
    rw [←hq,zBg] at e2
    rw [←hq] at hsj hszq
    obtain ⟨ht1,ht2⟩:=zOh hsj
    have hln2:(p.steps.take j).length=j:=by simp;omega
    try simp (maxSteps:=2000000) only [go_sem,e1,e2]
    repeat with_reducible refine zAt ?_
    refine zAc (fun k:Nat=>[(8,.pv (iv k)),(94,.own zAs 6 (zCJ (q.tests.take k))),(9,.un),(55,.un),(95,.un),(96,.un),(97,.un),(98,.un),(99,.un),(100,.un)]) (fun k:Nat=>q.tests.length-k) (fun k:Nat=>k≤q.tests.length) (0) ?_ (Nat.zero_le _) ?_
    focus (exact leA)
    rintro k hk
    try simp (maxSteps:=2000000) only [go_sem,e1,e2]
    repeat with_reducible refine zAt ?_
    refine zAa (by rfl) trivial (fun h6=>?_) (fun h6=>?_)
    ·have hkl:k < q.tests.length:=by simp at h6;omega
     obtain ⟨t,ht⟩:∃ t,t=q.tests.getD k default:=⟨_,rfl⟩
     have e3:=zB4 q.tests k hkl
     have htk:=ht2 k hkl
     rw [←ht,zA1] at e3
     rw [←ht] at htk
     have hszt:SizeOf.sizeOf t.list≤N:=by
      have h7:=zUs hkl
      have h8:=zDr q
      have h9:=zER t
      rw [←ht] at h7
      omega
     have hc:=ih t.list hszt htk
     have hln3:(q.tests.take k).length=k:=by simp;omega
     try simp (maxSteps:=2000000) only [go_sem,e1,e2,e3]
     repeat with_reducible refine zAt ?_
     refine zA3 (by repeat' constructor) (hc) ?_
     refine goW ?_
     refine ⟨k+1,by omega,by omega,?_⟩
     simp (maxSteps:=2000000) only [go_sem,zAu,zAE,zA9,zAv]
     all_goals (repeat' (first|exact trivial|exact zAI (by omega)|exact zAB rfl|exact zAU rfl|exact zAW|exact le_refl _|refine And.intro ?_ ?_))
     refine zBk ?_
     rw [zBT default hkl,←ht]
     simp only [zE1,zCJ,zA1]
    ·have hkl:k=q.tests.length:=by simp at h6;omega
     subst hkl
     rw [List.take_length]
     refine goW ?_
     refine ⟨j+1,by omega,by omega,?_⟩
     simp (maxSteps:=2000000) only [go_sem,zAu,zAE,zA9,zAv]
     all_goals (repeat' (first|exact trivial|exact zAI (by omega)|exact zAB rfl|exact zAU rfl|exact zAW|exact le_refl _|refine And.intro ?_ ?_))
     refine zBk ?_
     rw [zBT default hjl,←hq]
     simp only [yRW,zFG,zBg]
   ·have hjl:j=p.steps.length:=by simp at h4;omega
    subst hjl
    rw [List.take_length]
    refine goW ?_
    refine ⟨i+1,by omega,by omega,?_⟩
    simp (maxSteps:=2000000) only [go_sem,zAu,zAE,zA9,zAv]
    all_goals (repeat' (first|exact trivial|exact zAI (by omega)|exact zAB rfl|exact zAU rfl|exact zAW|exact le_refl _|refine And.intro ?_ ?_))
    refine zBk ?_
    rw [zBT default hil,←hp]
    simp only [yMz,zBx,zA2]
  ·have hil:i=l.length:=by simp at h2;omega
   subst hil
   rw [List.take_length]
   refine goW ?_
   exact zDb rfl
end Go.Hx
end

section
set_option maxRecDepth 100000
set_option maxHeartbeats 4000000
namespace Go.Hx
open Go.Proofs
variable [Glob] [GlobL]
attribute [local go_sem] zAh zAj zAg zAd ndV zAm zAn zBZ zAD zAO zAQ List.nil_append
attribute [local go_sem] reduceCtorEq Nat.reduceAdd Nat.reduceEqDiff reduceIte Nat.reduceLeDiff Nat.reduceLT Nat.reduceSub
def ySg (P:Go.Program) (N:Nat):Prop:=∀ a b:Ts,SizeOf.sizeOf a≤N→Contract P zCR [.val (.agg (tsV a)),.val (.agg (tsV b))] {res:=.val (bv (zCP a b))}
theorem yLB {N:Nat} (ih:ySg Tryz.prog N) (a b:St) (hs:SizeOf.sizeOf a≤N):Contract Tryz.prog zFl [.val (.agg (stV a)),.val (.agg (stV b))] {res:=.val (bv (zPt a b))}:=by
 rw [zBg,zBg]
 refine mkA zSE (base:=0) (fo rfl) (fun hfit=>?_)
 unfold F0 zKX
 refine goU ?_
 have fl:=zW6 hfit.1.2.1
 refine zAa (by rfl) trivial (fun h1=>?_) (fun h1=>?_)
 ·refine goW ?_
  refine zAb rfl trivial (.inl ?_)
  congr 3
  rw [yF0]
  by_cases ht:a.tag=b.tag
  ·have hl:a.tests.length≠b.tests.length:=by
    rw [ht] at h1
    simp at h1
    omega
   rw [yBZ hl,Bool.and_false]
  ·rw [beq_false_of_ne ht,Bool.false_and]
 have ht:a.tag=b.tag:=by
  cases hc:(a.tag==b.tag) with
  |true=>simpa using hc
  |false=>rw [hc] at h1;cases h1
 have hl:a.tests.length=b.tests.length:=by
  rw [ht] at h1
  simp at h1
  omega
 have hR:zPt a b=zEb a.tests b.tests:=by rw [yF0,ht,beq_self_eq_true,Bool.true_and]
 rw [hR]
 refine goW ?_
 refine zAc (fun i:Nat=>[(5,.pv (iv i)),(4,.un),(24,.un),(38,.un)]) (fun i:Nat=>a.tests.length-i) (fun i:Nat=>i≤a.tests.length∧zEb (a.tests.drop i) (b.tests.drop i)=zEb a.tests b.tests) (0) ?_ ⟨Nat.zero_le _,rfl⟩ ?_
 focus (exact leA)
 rintro i ⟨hi,hinv⟩
 refine goW ?_
 refine zAa (by rfl) trivial (fun h2=>?_) (fun h2=>?_)
 ·have hil:i < a.tests.length:=by simp at h2;omega
  have hib:i < b.tests.length:=by omega
  rw [zAH (d:=default) hil,zAH (d:=default) hib,zEb] at hinv
  have e1:=zB4 a.tests i hil
  have e2:=zB4 b.tests i hib
  rw [zA1] at e1 e2
  have h7:=ih (a.tests.getD i default) (b.tests.getD i default) (by have:=zUs hil;have:=zDr a;omega)
  rw [zA1,zA1] at h7
  try simp (maxSteps:=2000000) only [go_sem,e1,e2]
  repeat with_reducible refine zAt ?_
  refine zAe (by repeat' constructor) (h7) ?_
  refine goW ?_
  refine zAa (by rfl) trivial (fun h3=>?_) (fun h3=>?_)
  ·refine goW ?_
   refine zAb rfl trivial (.inl ?_)
   congr 3
   rw [←hinv]
   have h4:zCP (a.tests.getD i default) (b.tests.getD i default)=false:=by simpa using h3
   rw [h4];rfl
  ·have h4:zCP (a.tests.getD i default) (b.tests.getD i default)=true:=by simpa using h3
   rw [h4,Bool.true_and] at hinv
   refine goW ?_
   refine ⟨i+1,by omega,⟨by omega,hinv⟩,?_⟩
   exact leA
 ·have hil:i=a.tests.length:=by simp at h2;omega
  refine goW ?_
  refine zAb rfl trivial (.inl ?_)
  congr 3
  rw [←hinv,hil,List.drop_length,hl,List.drop_length]
  simp only [zEb]
theorem zX7 {N:Nat} (ih:ySg Tryz.prog N) (a b:Pt) (hs:SizeOf.sizeOf a≤N):Contract Tryz.prog zCQ [.val (.agg (ptV a)),.val (.agg (ptV b))] {res:=.val (bv (zCx a b))}:=by
 rw [zA2,zA2]
 refine mkA zSO (base:=0) (fo rfl) (fun hfit=>?_)
 unfold F0 zKY
 refine goU ?_
 have fl:=zKK hfit.1.1
 apply zAo (h2:=fun _=>zLH a.links b.links)
 ·(simp (maxSteps:=2000000) only [go_sem];rfl)
 ·intro h;repeat' (first|exact trivial|exact h|refine And.intro ?_ ?_)
 refine goW ?_
 refine zAa (by rfl) trivial (fun h1=>?_) (fun h1=>?_)
 ·refine goW ?_
  refine zAb rfl trivial (.inl ?_)
  congr 3
  rw [yF1]
  by_cases ht:a.links=b.links
  ·have hl:a.steps.length≠b.steps.length:=by
    simp [ht] at h1
    omega
   rw [yB0 hl,Bool.and_false]
  ·rw [beq_false_of_ne ht,Bool.false_and]
 have hl:a.steps.length=b.steps.length:=by
  cases hc:((a.steps.length:Int) != (b.steps.length:Int)) with
  |false=>simp at hc;omega
  |true=>rw [hc] at h1;cases h1
 have ht:a.links=b.links:=by
  rw [hl] at h1
  simpa using h1
 have hR:zCx a b=zEc a.steps b.steps:=by rw [yF1,ht,beq_self_eq_true,Bool.true_and]
 rw [hR]
 refine goW ?_
 refine zAc (fun i:Nat=>[(5,.pv (iv i)),(4,.un),(25,.un),(39,.un)]) (fun i:Nat=>a.steps.length-i) (fun i:Nat=>i≤a.steps.length∧zEc (a.steps.drop i) (b.steps.drop i)=zEc a.steps b.steps) (0) ?_ ⟨Nat.zero_le _,rfl⟩ ?_
 focus (exact leA)
 rintro i ⟨hi,hinv⟩
 refine goW ?_
 refine zAa (by rfl) trivial (fun h2=>?_) (fun h2=>?_)
 ·have hil:i < a.steps.length:=by simp at h2;omega
  have hib:i < b.steps.length:=by omega
  rw [zAH (d:=default) hil,zAH (d:=default) hib,zEc] at hinv
  have e1:=zCB a.steps i hil
  have e2:=zCB b.steps i hib
  rw [zBg] at e1 e2
  have h7:=yLB ih (a.steps.getD i default) (b.steps.getD i default) (by have:=zUt hil;have:=zDs a;omega)
  rw [zBg,zBg] at h7
  try simp (maxSteps:=2000000) only [go_sem,e1,e2]
  repeat with_reducible refine zAt ?_
  refine zAe (by repeat' constructor) (h7) ?_
  refine goW ?_
  refine zAa (by rfl) trivial (fun h3=>?_) (fun h3=>?_)
  ·refine goW ?_
   refine zAb rfl trivial (.inl ?_)
   congr 3
   rw [←hinv]
   have h4:zPt (a.steps.getD i default) (b.steps.getD i default)=false:=by simpa using h3
   rw [h4];rfl
  ·have h4:zPt (a.steps.getD i default) (b.steps.getD i default)=true:=by simpa using h3
   rw [h4,Bool.true_and] at hinv
   refine goW ?_
   refine ⟨i+1,by omega,⟨by omega,hinv⟩,?_⟩
   exact leA
 ·have hil:i=a.steps.length:=by simp at h2;omega
  refine goW ?_
  refine zAb rfl trivial (.inl ?_)
  congr 3
  rw [←hinv,hil,List.drop_length,hl,List.drop_length]
  simp only [zEc]
theorem zX8 {N:Nat} (ih:ySg Tryz.prog N) (a b:List Pt) (hs:SizeOf.sizeOf a≤N):Contract Tryz.prog zBK [.val (.one (.sl 2 (zBx a))),.val (.one (.sl 2 (zBx b)))] {res:=.val (bv (zCy a b))}:=by
 refine mkA zSY (base:=0) (fo rfl) (fun hfit=>?_)
 unfold F0 zKZ
 refine goU ?_
 have fl:=zPq hfit.1
 refine zAa (by rfl) trivial (fun h1=>?_) (fun h1=>?_)
 ·refine goW ?_
  refine zAb rfl trivial (.inl ?_)
  congr 3
  have:a.length≠b.length:=by simp at h1;omega
  rw [yB1 this]
 have hl:a.length=b.length:=by simp at h1;omega
 refine goW ?_
 refine zAc (fun i:Nat=>[(5,.pv (iv i)),(4,.un),(14,.un),(26,.un)]) (fun i:Nat=>a.length-i) (fun i:Nat=>i≤a.length∧zCy (a.drop i) (b.drop i)=zCy a b) (0) ?_ ⟨Nat.zero_le _,rfl⟩ ?_
 focus (exact leA)
 rintro i ⟨hi,hinv⟩
 refine goW ?_
 refine zAa (by rfl) trivial (fun h2=>?_) (fun h2=>?_)
 ·have hil:i < a.length:=by simp at h2;omega
  have hib:i < b.length:=by omega
  rw [zAH (d:=default) hil,zAH (d:=default) hib,zCy] at hinv
  have e1:=zBH a i hil
  have e2:=zBH b i hib
  rw [zA2] at e1 e2
  have h7:=zX7 ih (a.getD i default) (b.getD i default) (by have:=zUu hil;omega)
  rw [zA2,zA2] at h7
  try simp (maxSteps:=2000000) only [go_sem,e1,e2]
  repeat with_reducible refine zAt ?_
  refine zAe (by repeat' constructor) (h7) ?_
  refine goW ?_
  refine zAa (by rfl) trivial (fun h3=>?_) (fun h3=>?_)
  ·refine goW ?_
   refine zAb rfl trivial (.inl ?_)
   congr 3
   rw [←hinv]
   have h4:zCx (a.getD i default) (b.getD i default)=false:=by simpa using h3
   rw [h4];rfl
  ·have h4:zCx (a.getD i default) (b.getD i default)=true:=by simpa using h3
   rw [h4,Bool.true_and] at hinv
   refine goW ?_
   refine ⟨i+1,by omega,⟨by omega,hinv⟩,?_⟩
   exact leA
 ·have hil:i=a.length:=by simp at h2;omega
  refine goW ?_
  refine zAb rfl trivial (.inl ?_)
  congr 3
  rw [←hinv,hil,List.drop_length,hl,List.drop_length]
  simp only [zCy]
theorem zLg:∀ N,ySg Tryz.prog N
 |0=>fun a b h=>by have:=yIN a;omega
 |N+1=>fun a b h=>by
  have ih:=zLg N
  have hc:=zX8 ih a.list b.list (by have:=zER a;omega)
  rw [zA1,zA1]
  refine mkA zSu (base:=0) (fo rfl) (fun hfit=>?_)
  unfold F0 zKW
  refine goU ?_
  apply zAo (h2:=fun _=>hc)
  ·(simp (maxSteps:=2000000) only [go_sem];rfl)
  ·intro h;repeat' (first|exact trivial|exact h|refine And.intro ?_ ?_)
  refine goW ?_
  refine zAb rfl trivial (.inl ?_)
  congr 3
  rw [yMO]
  simp [Bool.cond_false_right,Bool.and_assoc]
theorem ySh (a b:Ts):Contract Tryz.prog zCR [.val (.agg (tsV a)),.val (.agg (tsV b))] {res:=.val (bv (zCP a b))}:=zLg _ a b (Nat.le_refl _)
theorem ySi (a b:Pt):Contract Tryz.prog zCQ [.val (.agg (ptV a)),.val (.agg (ptV b))] {res:=.val (bv (zCx a b))}:=zX7 (zLg _) a b (Nat.le_refl _)
theorem yGf (a b:List Pt):Contract Tryz.prog zBK [.val (.one (.sl 2 (zBx a))),.val (.one (.sl 2 (zBx b)))] {res:=.val (bv (zCy a b))}:=zX8 (zLg _) a b (Nat.le_refl _)
end Go.Hx
end

section
set_option maxRecDepth 100000
set_option maxHeartbeats 4000000
namespace Go.Hx
open Go.Proofs
variable [Glob] [GlobL]
attribute [local go_sem] zAh zAj zAg zAd ndV zAm zAn zBZ zAD zAO zAQ List.nil_append OVal.cells List.map_nil List.map_cons ev zAi zC1 zQb yM8 zAV yJb zG7 List.length_cons List.length_nil
attribute [local go_sem] reduceCtorEq Nat.reduceAdd Nat.reduceEqDiff reduceIte Nat.reduceLeDiff Nat.reduceLT Nat.reduceSub
def yXd (l:List Ts):List (List OV):=l.map fun t=>(tsV t).map .p
def ovS (s:St):List OV:=[.p (bS s.tag),.os none zAs 6 (yXd s.tests)]
def yXe (l:List St):List (List OV):=l.map ovS
def ovP (p:Pt):List OV:=[.os none zBz 2 (yXe p.steps),.p (.sl 1 (zAM p.links))]
def yVm (l:List Pt):List (List OV):=l.map ovP
theorem ySj (a:List Ts):(yXd a).length=a.length:=by simp [yXd]
attribute [local go_sem] ySj
theorem ySk (a:List St):(yXe a).length=a.length:=by simp [yXe]
attribute [local go_sem] ySk
theorem ySl (a:List Pt):(yVm a).length=a.length:=by simp [yVm]
attribute [local go_sem] ySl
theorem yXf (l:List Pt) (hsh:shL l=true):Contract Tryz.prog zBB [.val (.one (.sl 2 (zBx l)))] {res:=.ov (.one (.os none zAx 2 (yVm l)))}:=by
  have ih:=fun (l:List Pt) (h:shL l=true)=>zTG _ l (Nat.le_refl _) h
  obtain ⟨hlen,hshl⟩:=zOj hsh
  refine mkA zX6 (base:=0) (fo rfl) (fun hfit=>?_)
  unfold F0 zLQ
  refine goU ?_
  refine zAc (fun i:Nat=>[(4,.pv (iv i)),(3,.ov (.one (.os none zAx 2 (yVm (l.take i))))),(5,.un),(6,.un),(7,.un),(8,.un),(9,.un),(13,.un),(31,.un),(55,.un),(91,.un),(92,.un),(93,.un),(94,.un),(95,.un),(96,.un),(97,.un),(98,.un),(99,.un),(100,.un)]) (fun i:Nat=>l.length-i) (fun i:Nat=>i≤l.length) (0) ?_ (Nat.zero_le _) ?_
  focus (exact leA)
  rintro i hi
  refine goW ?_
  refine zAa (by rfl) trivial (fun h2=>?_) (fun h2=>?_)
  ·have hil:i < l.length:=by simp at h2;omega
   obtain ⟨p,hp⟩:∃ p,p=l.getD i default:=⟨_,rfl⟩
   have e1:=zBH l i hil
   have hps:=hshl i hil
   rw [←hp,zA2] at e1
   rw [←hp] at hps
   obtain ⟨hs1,hs2,hs3⟩:=zOi hps
   have hln:(l.take i).length=i:=by simp;omega
   try simp (maxSteps:=2000000) only [go_sem,e1]
   repeat with_reducible refine zAt ?_
   refine zAc (fun j:Nat=>[(6,.pv (iv j)),(91,.ov (.one (.os none zBz 2 (yXe (p.steps.take j))))),(7,.un),(8,.un),(9,.un),(31,.un),(55,.un),(93,.un),(94,.un),(95,.un),(96,.un),(97,.un),(98,.un),(99,.un),(100,.un)]) (fun j:Nat=>p.steps.length-j) (fun j:Nat=>j≤p.steps.length) (0) ?_ (Nat.zero_le _) ?_
   focus (simp (maxSteps:=2000000) only [go_sem,zAu,zAE,zA9,zAv];all_goals (repeat' (first|exact trivial|exact zAI (by omega)|exact zAB rfl|exact zAU rfl|exact zAW|exact le_refl _|refine And.intro ?_ ?_)))
   ·exact .inr (.inr rfl)
   rintro j hj
   try simp (maxSteps:=2000000) only [go_sem,e1]
   repeat with_reducible refine zAt ?_
   refine zAa (by rfl) trivial (fun h4=>?_) (fun h4=>?_)
   ·have hjl:j < p.steps.length:=by simp at h4;omega
    obtain ⟨q,hq⟩:∃ q,q=p.steps.getD j default:=⟨_,rfl⟩
    have e2:=zCB p.steps j hjl
    have hsj:=hs3 j hjl
    rw [←hq,zBg] at e2
    rw [←hq] at hsj
    obtain ⟨ht1,ht2⟩:=zOh hsj
    have hln2:(p.steps.take j).length=j:=by simp;omega
    try simp (maxSteps:=2000000) only [go_sem,e1,e2]
    repeat with_reducible refine zAt ?_
    refine zAc (fun k:Nat=>[(8,.pv (iv k)),(94,.ov (.one (.os none zAs 6 (yXd (q.tests.take k))))),(9,.un),(55,.un),(95,.un),(96,.un),(97,.un),(98,.un),(99,.un),(100,.un)]) (fun k:Nat=>q.tests.length-k) (fun k:Nat=>k≤q.tests.length) (0) ?_ (Nat.zero_le _) ?_
    focus (simp (maxSteps:=2000000) only [go_sem,zAu,zAE,zA9,zAv];all_goals (repeat' (first|exact trivial|exact zAI (by omega)|exact zAB rfl|exact zAU rfl|exact zAW|exact le_refl _|refine And.intro ?_ ?_)))
    ·exact .inr (.inr rfl)
    rintro k hk
    try simp (maxSteps:=2000000) only [go_sem,e1,e2]
    repeat with_reducible refine zAt ?_
    refine zAa (by rfl) trivial (fun h6=>?_) (fun h6=>?_)
    ·have hkl:k < q.tests.length:=by simp at h6;omega
     obtain ⟨t,ht⟩:∃ t,t=q.tests.getD k default:=⟨_,rfl⟩
     have e3:=zB4 q.tests k hkl
     have htk:=ht2 k hkl
     rw [←ht,zA1] at e3
     rw [←ht] at htk
     have hc:=ih t.list htk
     have hln3:(q.tests.take k).length=k:=by simp;omega
     try simp (maxSteps:=2000000) only [go_sem,e1,e2,e3]
     repeat with_reducible refine zAt ?_
     refine zA3 (by repeat' constructor) (hc) ?_
     refine goW ?_
     refine ⟨k+1,by omega,by omega,?_⟩
     simp (maxSteps:=2000000) only [go_sem,zAu,zAE,zA9,zAv]
     all_goals (repeat' (first|exact trivial|exact zAI (by omega)|exact zAB rfl|exact zAU rfl|exact zAW|exact le_refl _|refine And.intro ?_ ?_))
     refine zAU ?_
     rw [zBT default hkl,←ht]
     simp only [yXd,List.map_append,List.map_cons,List.map_nil,zA1]
    ·have hkl:k=q.tests.length:=by simp at h6;omega
     subst hkl
     rw [List.take_length]
     refine goW ?_
     refine ⟨j+1,by omega,by omega,?_⟩
     simp (maxSteps:=2000000) only [go_sem,zAu,zAE,zA9,zAv]
     all_goals (repeat' (first|exact trivial|exact zAI (by omega)|exact zAB rfl|exact zAU rfl|exact zAW|exact le_refl _|refine And.intro ?_ ?_))
     refine zAU ?_
     rw [zBT default hjl,←hq]
     simp only [yXe,List.map_append,List.map_cons,List.map_nil,ovS]
   ·have hjl:j=p.steps.length:=by simp at h4;omega
    subst hjl
    rw [List.take_length]
    refine goW ?_
    refine ⟨i+1,by omega,by omega,?_⟩
    simp (maxSteps:=2000000) only [go_sem,zAu,zAE,zA9,zAv]
    all_goals (repeat' (first|exact trivial|exact zAI (by omega)|exact zAB rfl|exact zAU rfl|exact zAW|exact le_refl _|refine And.intro ?_ ?_))
    refine zAU ?_
    rw [zBT default hil,←hp]
    simp only [yVm,List.map_append,List.map_cons,List.map_nil,ovP]
  ·have hil:i=l.length:=by simp at h2;omega
   subst hil
   rw [List.take_length]
   refine goW ?_
   exact yPx rfl
end Go.Hx
end

section
set_option maxRecDepth 100000
set_option maxHeartbeats 40000000
namespace Go.Hx
open Go.Proofs
variable [Glob] [GlobL]
attribute [local go_sem] zAh zAj zAg zAd ndV zAm zAn zBZ zAD zAO zAQ List.getD_nil List.take_nil List.headD_nil List.headD_cons List.getD_cons_zero List.length_cons List.length_nil yQs yQt yQu yR8 yR9 ySa zJh zOg yIO List.drop_zero List.take_succ_cons List.take_zero List.map_nil List.map_cons List.length_drop List.length_take List.take_length
attribute [local go_sem] reduceCtorEq Nat.reduceAdd Nat.reduceEqDiff reduceIte Nat.reduceLeDiff Nat.reduceLT Nat.reduceSub
def sgl (l:List Pt):St:=(zCi l).getD (.mk [] [])
theorem ySm (l:List Pt):Contract Tryz.prog zJj [.val (.one (.sl 2 (zBx l)))] {res:=.tup [.agg (stV (sgl l)),bv (zCi l).isSome]}:=by
 rcases l with _|⟨p,_|⟨q,r⟩⟩
 ·simp only [zBx]
  refine mkA zEH (base:=0) (fo rfl) (fun hfit=>?_)
  unfold F0 zEe
  refine goU ?_
  refine zE5 (by rfl) trivial ?_
  refine goW ?_
  exact zAL (by intro r;simp) (by repeat' (first|exact trivial|exact .inl rfl|exact .inr rfl|constructor))
 ·simp only [zBx,zA2]
  rcases hs:p.steps with _|⟨x,_|⟨y,r⟩⟩
  ·simp only [zFG]
   refine mkA zEH (base:=0) (fo rfl) (fun hfit=>?_)
   unfold F0 zEe
   refine goU ?_
   refine zE5 (by rfl) trivial ?_
   refine goW ?_
   simp only [sgl,zCi,hs]
   exact zAL (by intro r;simp) (by repeat' (first|exact trivial|exact .inl rfl|exact .inr rfl|constructor))
  ·simp only [zFG,zBg]
   refine mkA zEH (base:=0) (fo rfl) (fun hfit=>?_)
   unfold F0 zEe
   refine goU ?_
   refine zJR (by rfl) trivial ?_
   refine goW ?_
   simp only [sgl,zCi,hs,Option.getD_some,zBg]
   exact zAL (by intro r;simp) (by repeat' (first|exact trivial|exact .inl rfl|exact .inr rfl|constructor))
  ·simp only [zFG]
   refine mkA zEH (base:=0) (fo rfl) (fun hfit=>?_)
   unfold F0 zEe
   refine goU ?_
   refine zE5 (by rfl) trivial ?_
   refine goW ?_
   simp only [sgl,zCi,hs]
   exact zAL (by intro r;simp) (by repeat' (first|exact trivial|exact .inl rfl|exact .inr rfl|constructor))
 ·simp only [zBx,zA2 p]
  refine mkA zEH (base:=0) (fo rfl) (fun hfit=>?_)
  unfold F0 zEe
  refine goU ?_
  refine zE5 (by rfl) trivial ?_
  refine goW ?_
  exact zAL (by intro r;simp) (by repeat' (first|exact trivial|exact .inl rfl|exact .inr rfl|constructor))
theorem yZa {Q:Exit→List Ct→Prop} (s o x:St) (i:Nat) (is fits:Bool) (k na nb:Int) (nm vl:Bys) (c2:List (List PV)) (c20:Ct)
  (h:∀ b,b=(is&&nnB k x)→Q .normal [.pv (.agg [bS s.tag,.sl 6 (zCJ s.tests)]),.pv (.one (.fp [bS s.tag,.sl 6 (zCJ s.tests)])),.ptr 0 0,.ptr 1 0,.pv (iv i),.pv (.one (.fp [bI k,bS nm,bS vl,bI na,bI nb,.sl 2 c2])),.pv (.one (.fp [bS x.tag,.sl 6 (zCJ x.tests)])),.pv (bv is),.pv (bv fits),.un,.un,.un,.un,.un,.un,.un,.un,.un,.un,.un,c20,.un,.un,.un,.un,.un,.un,.un,.un,.un,.un,.un,.un,.un,.un,.un,.un,.un,.un,.un,.un,.un,.un,.un,.un,.un,.un,.un,.un,.un,.un,.un,.un,.un,.un,.pv (bv b),.un,.un,.un,.un,.un,.un,.un,.un,.un,.un,.un,.un,.un,.un,.un,.un,.un,.un,.un,.un,.un,.un,.un,.un,.un,.un,.un,.un,.un,.un,.un,.un,.un,.un,.un,.un,.un,.un,.un,.un,.un,.un,.un,.un,.un,.un,.un,.un,.un,.un,.un,.un,.un,.un,.un,.un,.un,.un,.un,.un,.un,.un,.un,.un,.un,.un,.un,.un,.un,.un,.un,.un,.un,.un,.un,.un,.un,.un,.un,.un,.un,.un,.un,.un,.un,.un,.un,.un,.un,.un,.un,.un,.un,.un,.un,.un,.un,.un,.un,.un,.un,.un,.un,.un,.un,.un,.un,.un,.un,.un,.un,.un,.un,.un,.pv (.one (.v (mkS []))),.pv (.one (.nl 6)),.pv (.one (bS o.tag)),.own zAs 6 (zCJ o.tests),.un,.un,.un,.un,.un,.un,.un,.un]):
  hwp Tryz.prog zGb Q [.pv (.agg [bS s.tag,.sl 6 (zCJ s.tests)]),.pv (.one (.fp [bS s.tag,.sl 6 (zCJ s.tests)])),.ptr 0 0,.ptr 1 0,.pv (iv i),.pv (.one (.fp [bI k,bS nm,bS vl,bI na,bI nb,.sl 2 c2])),.pv (.one (.fp [bS x.tag,.sl 6 (zCJ x.tests)])),.pv (bv is),.pv (bv fits),.un,.un,.un,.un,.un,.un,.un,.un,.un,.un,.un,c20,.un,.un,.un,.un,.un,.un,.un,.un,.un,.un,.un,.un,.un,.un,.un,.un,.un,.un,.un,.un,.un,.un,.un,.un,.un,.un,.un,.un,.un,.un,.un,.un,.un,.un,.un,.un,.un,.un,.un,.un,.un,.un,.un,.un,.un,.un,.un,.un,.un,.un,.un,.un,.un,.un,.un,.un,.un,.un,.un,.un,.un,.un,.un,.un,.un,.un,.un,.un,.un,.un,.un,.un,.un,.un,.un,.un,.un,.un,.un,.un,.un,.un,.un,.un,.un,.un,.un,.un,.un,.un,.un,.un,.un,.un,.un,.un,.un,.un,.un,.un,.un,.un,.un,.un,.un,.un,.un,.un,.un,.un,.un,.un,.un,.un,.un,.un,.un,.un,.un,.un,.un,.un,.un,.un,.un,.un,.un,.un,.un,.un,.un,.un,.un,.un,.un,.un,.un,.un,.un,.un,.un,.un,.un,.un,.un,.un,.un,.un,.un,.pv (.one (.v (mkS []))),.pv (.one (.nl 6)),.pv (.one (bS o.tag)),.own zAs 6 (zCJ o.tests),.un,.un,.un,.un,.un,.un,.un,.un]:=by
 unfold nnB at h
 obtain ⟨xt,xl⟩:=x
 simp only [St.tag_mk,St.tests_mk] at h ⊢
 rcases xl with _|⟨u,_|⟨v,w⟩⟩
 ·simp only [zCJ] at h ⊢
  rcases is with _|_
  ·try simp (maxSteps:=2000000) only [go_sem,Bool.not_true,Bool.not_false]
   repeat with_reducible refine zAt ?_
   exact h _ (by simp)
  by_cases hk:k=13
  ·have e1:(k==13)=true:=by simp [hk]
   by_cases ha:xt=[]
   ·have e2:(xt==[])=true:=by simp [ha]
    try simp (maxSteps:=2000000) only [go_sem,e1,e2,Bool.not_true,Bool.not_false]
    repeat with_reducible refine zAt ?_
    exact h _ (by rw [e1,e2];first|rfl|simp)
   ·have e2:(xt==[])=false:=by simp [ha]
    try simp (maxSteps:=2000000) only [go_sem,e1,e2,Bool.not_true,Bool.not_false]
    repeat with_reducible refine zAt ?_
    exact h _ (by rw [e1,e2];first|rfl|simp)
  ·have e1:(k==13)=false:=by simp [hk]
   try simp (maxSteps:=2000000) only [go_sem,e1,Bool.not_true,Bool.not_false]
   repeat with_reducible refine zAt ?_
   exact h _ (by rw [e1];first|rfl|simp)
 ·simp only [zCJ,zA1 u] at h ⊢
  rcases is with _|_
  ·try simp (maxSteps:=2000000) only [go_sem,Bool.not_true,Bool.not_false]
   repeat with_reducible refine zAt ?_
   exact h _ (by simp)
  by_cases hk:k=13
  ·have e1:(k==13)=true:=by simp [hk]
   by_cases ha:xt=[]
   ·have e2:(xt==[])=true:=by simp [ha]
    try simp (maxSteps:=2000000) only [go_sem,e1,e2,Bool.not_true,Bool.not_false]
    repeat with_reducible refine zAt ?_
    exact h _ (by rw [e1,e2];first|rfl|simp)
   ·have e2:(xt==[])=false:=by simp [ha]
    try simp (maxSteps:=2000000) only [go_sem,e1,e2,Bool.not_true,Bool.not_false]
    repeat with_reducible refine zAt ?_
    exact h _ (by rw [e1,e2];first|rfl|simp)
  ·have e1:(k==13)=false:=by simp [hk]
   try simp (maxSteps:=2000000) only [go_sem,e1,Bool.not_true,Bool.not_false]
   repeat with_reducible refine zAt ?_
   exact h _ (by rw [e1];first|rfl|simp)
 ·simp only [zCJ,zA1 u] at h ⊢
  rcases is with _|_
  ·try simp (maxSteps:=2000000) only [go_sem,Bool.not_true,Bool.not_false]
   repeat with_reducible refine zAt ?_
   exact h _ (by simp)
  by_cases hk:k=13
  ·have e1:(k==13)=true:=by simp [hk]
   by_cases ha:xt=[]
   ·have e2:(xt==[])=true:=by simp [ha]
    try simp (maxSteps:=2000000) only [go_sem,e1,e2,Bool.not_true,Bool.not_false]
    repeat with_reducible refine zAt ?_
    exact h _ (by rw [e1,e2];first|rfl|simp)
   ·have e2:(xt==[])=false:=by simp [ha]
    try simp (maxSteps:=2000000) only [go_sem,e1,e2,Bool.not_true,Bool.not_false]
    repeat with_reducible refine zAt ?_
    exact h _ (by rw [e1,e2];first|rfl|simp)
  ·have e1:(k==13)=false:=by simp [hk]
   try simp (maxSteps:=2000000) only [go_sem,e1,Bool.not_true,Bool.not_false]
   repeat with_reducible refine zAt ?_
   exact h _ (by rw [e1];first|rfl|simp)
def ySn (o:St) (k:Int) (xt:Bys) (fits:Bool):Bool:=(k==14)&&((xt==[])||(o.tag==[])||(xt==o.tag))&&fits
theorem yZb {Q:Exit→List Ct→Prop} (s o:St) (i:Nat) (is fits:Bool) (k na nb:Int) (xt nm vl:Bys) (rx c2:List (List PV)) (c20 c55:Ct)
  (h:∀ b,b=(is&&ySn o k xt fits)→Q .normal [.pv (.agg [bS s.tag,.sl 6 (zCJ s.tests)]),.pv (.one (.fp [bS s.tag,.sl 6 (zCJ s.tests)])),.ptr 0 0,.ptr 1 0,.pv (iv i),.pv (.one (.fp [bI k,bS nm,bS vl,bI na,bI nb,.sl 2 c2])),.pv (.one (.fp [bS xt,.sl 6 rx])),.pv (bv is),.pv (bv fits),.un,.un,.un,.un,.un,.un,.un,.un,.un,.un,.un,c20,.un,.un,.un,.un,.un,.un,.un,.un,.un,.un,.un,.un,.un,.un,.un,.un,.un,.un,.un,.un,.un,.un,.un,.un,.un,.un,.un,.un,.un,.un,.un,.un,.un,.un,c55,.un,.un,.un,.un,.un,.un,.un,.un,.un,.un,.un,.un,.un,.un,.un,.un,.un,.un,.un,.un,.un,.un,.un,.un,.un,.un,.un,.un,.un,.un,.un,.un,.un,.un,.un,.un,.pv (bv b),.un,.un,.un,.un,.un,.un,.un,.un,.un,.un,.un,.un,.un,.un,.un,.un,.un,.un,.un,.un,.un,.un,.un,.un,.un,.un,.un,.un,.un,.un,.un,.un,.un,.un,.un,.un,.un,.un,.un,.un,.un,.un,.un,.un,.un,.un,.un,.un,.un,.un,.un,.un,.un,.un,.un,.un,.un,.un,.un,.un,.un,.un,.un,.un,.un,.un,.un,.un,.un,.un,.un,.un,.un,.un,.un,.un,.un,.pv (.one (.v (mkS []))),.pv (.one (.nl 6)),.pv (.one (bS o.tag)),.own zAs 6 (zCJ o.tests),.un,.un,.un,.un,.un,.un,.un,.un]):
  hwp Tryz.prog zGc Q [.pv (.agg [bS s.tag,.sl 6 (zCJ s.tests)]),.pv (.one (.fp [bS s.tag,.sl 6 (zCJ s.tests)])),.ptr 0 0,.ptr 1 0,.pv (iv i),.pv (.one (.fp [bI k,bS nm,bS vl,bI na,bI nb,.sl 2 c2])),.pv (.one (.fp [bS xt,.sl 6 rx])),.pv (bv is),.pv (bv fits),.un,.un,.un,.un,.un,.un,.un,.un,.un,.un,.un,c20,.un,.un,.un,.un,.un,.un,.un,.un,.un,.un,.un,.un,.un,.un,.un,.un,.un,.un,.un,.un,.un,.un,.un,.un,.un,.un,.un,.un,.un,.un,.un,.un,.un,.un,c55,.un,.un,.un,.un,.un,.un,.un,.un,.un,.un,.un,.un,.un,.un,.un,.un,.un,.un,.un,.un,.un,.un,.un,.un,.un,.un,.un,.un,.un,.un,.un,.un,.un,.un,.un,.un,.un,.un,.un,.un,.un,.un,.un,.un,.un,.un,.un,.un,.un,.un,.un,.un,.un,.un,.un,.un,.un,.un,.un,.un,.un,.un,.un,.un,.un,.un,.un,.un,.un,.un,.un,.un,.un,.un,.un,.un,.un,.un,.un,.un,.un,.un,.un,.un,.un,.un,.un,.un,.un,.un,.un,.un,.un,.un,.un,.un,.un,.un,.un,.un,.un,.un,.un,.un,.un,.un,.un,.un,.un,.un,.un,.un,.un,.un,.pv (.one (.v (mkS []))),.pv (.one (.nl 6)),.pv (.one (bS o.tag)),.own zAs 6 (zCJ o.tests),.un,.un,.un,.un,.un,.un,.un,.un]:=by
 rcases is with _|_
 ·try simp (maxSteps:=2000000) only [go_sem,Bool.not_true,Bool.not_false]
  repeat with_reducible refine zAt ?_
  exact h _ (by simp)
 by_cases hk:k=14
 ·have e1:(k==14)=true:=by simp [hk]
  by_cases ha:xt=[]
  ·have e2:(xt==[])=true:=by simp [ha]
   try simp (maxSteps:=2000000) only [go_sem,e1,e2,Bool.not_true,Bool.not_false]
   repeat with_reducible refine zAt ?_
   exact h _ (by unfold ySn;rw [e1,e2];cases fits<;>simp)
  ·have e2:(xt==[])=false:=by simp [ha]
   by_cases hb:o.tag=[]
   ·have e3:(o.tag==[])=true:=by simp [hb]
    try simp (maxSteps:=2000000) only [go_sem,e1,e2,e3,Bool.not_true,Bool.not_false]
    repeat with_reducible refine zAt ?_
    exact h _ (by unfold ySn;rw [e1,e2,e3];cases fits<;>simp)
   ·have e3:(o.tag==[])=false:=by simp [hb]
    by_cases hc:xt=o.tag
    ·have e4:(xt==o.tag)=true:=by simp [hc]
     try simp (maxSteps:=2000000) only [go_sem,e1,e2,e3,e4,Bool.not_true,Bool.not_false]
     repeat with_reducible refine zAt ?_
     exact h _ (by unfold ySn;rw [e1,e2,e3,e4];cases fits<;>simp)
    ·have e4:(xt==o.tag)=false:=by simp [hc]
     try simp (maxSteps:=2000000) only [go_sem,e1,e2,e3,e4,Bool.not_true,Bool.not_false]
     repeat with_reducible refine zAt ?_
     exact h _ (by unfold ySn;rw [e1,e2,e3,e4];rfl)
 ·have e1:(k==14)=false:=by simp [hk]
  try simp (maxSteps:=2000000) only [go_sem,e1,Bool.not_true,Bool.not_false]
  repeat with_reducible refine zAt ?_
  exact h _ (by unfold ySn;rw [e1];rfl)
end Go.Hx
end

section
set_option maxRecDepth 100000
set_option maxHeartbeats 40000000
namespace Go.Hx
open Go.Proofs
variable [Glob] [GlobL]
attribute [local go_sem] zAh zAj zAg zAd ndV zAm zAn zBZ zAD zAO zAQ List.getD_nil List.take_nil List.headD_nil List.headD_cons List.getD_cons_zero List.length_cons List.length_nil yQs yQt yQu yR8 yR9 ySa zJh zOg yIO List.drop_zero List.take_succ_cons List.take_zero List.map_nil List.map_cons List.length_drop List.length_take List.take_length
attribute [local go_sem] reduceCtorEq Nat.reduceAdd Nat.reduceEqDiff reduceIte Nat.reduceLeDiff Nat.reduceLT Nat.reduceSub
theorem yQz {o:St} {t:Ts} {r:Nat} (h:∀ x,zCi t.list=some x→zGF t x=none∧¬ (t.kind=14∧(x.tag=[]∨o.tag=[]∨x.tag=o.tag)∧o.tests.length+x.tests.length+r≤6)):zFk o t r=.mk o.tag (o.tests++[t]):=by
 rcases hs:zCi t.list with _|x
 ·exact yIQ hs
 ·exact yIR hs (h x hs).1 (h x hs).2
theorem yGg {l:List Pt} {x:St} (h:zCi l=some x):sgl l=x:=by unfold sgl;rw [h];rfl
theorem yB7 {l:List Pt} (h:(zCi l).isSome=true):zCi l=some (sgl l):=by
 cases hs:zCi l with
 |none=>rw [hs] at h;cases h
 |some x=>rw [yGg hs]
theorem yGh {l:List Ts} {k:Nat} (hk:k < l.length) (p:Ts→Bool):(l.take (k+1)).any p=((l.take k).any p||p (l.getD k default)):=by
 rw [zBT default hk,List.any_append,List.any_cons,List.any_nil,Bool.or_false]
theorem yOQ (s:St) (hlen:s.tests.length≤6) (hsh:∀ i,i < s.tests.length→(sgl (s.tests.getD i default).list).tests.length≤6):Contract Tryz.prog zGa [.val (.agg (stV s))] {res:=.val (.agg (stV (zXm s)))}:=by
 rw [zBg]
 obtain ⟨R,hR⟩:∃ R,R=zIH (.mk s.tag []) s.tests:=⟨_,rfl⟩
 refine mkA zXA (base:=0) (fo rfl) (fun hfit=>?_)
 unfold F0 zLP
 refine goU ?_
 refine zAc (fun x:Nat×St=>[(4,.pv (iv x.1)),(172,.pv (.one (bS x.2.tag))),(173,.own zAs 6 (zCJ x.2.tests)),(5,.un),(6,.un),(7,.un),(8,.un),(20,.un),(55,.un),(92,.un),(121,.un)]) (fun x:Nat×St=>s.tests.length-x.1) (fun x:Nat×St=>x.1≤s.tests.length∧zIH x.2 (s.tests.drop x.1)=R∧x.2.tests.length+(s.tests.length-x.1)≤6) ((0,.mk s.tag [])) ?_ ⟨Nat.zero_le _,hR.symm,by simpa [St.tests_mk] using hlen⟩ ?_
 focus (exact leA)
 rintro ⟨i,o⟩ ⟨hi,hinv,hol⟩
 simp only at hi hinv hol
 refine goW ?_
 refine zAa (by rfl) trivial (fun h2=>?_) (fun h2=>?_)
 ·have hil:i < s.tests.length:=by simp at h2;omega
  obtain ⟨t,ht⟩:∃ t,t=s.tests.getD i default:=⟨_,rfl⟩
  have e1:=zB4 s.tests i hil
  rw [←ht,zA1] at e1
  have hxl:=hsh i hil
  rw [←ht] at hxl
  rw [zAH (d:=default) hil,←ht,yB4,List.length_drop] at hinv
  have hrest:s.tests.length-(i+1)+1=s.tests.length-i:=by omega
  have hsg:=ySm t.list
  obtain ⟨x,hx⟩:∃ x,x=sgl t.list:=⟨_,rfl⟩
  rw [←hx] at hxl hsg
  rw [zBg] at hsg
  try simp (maxSteps:=2000000) only [go_sem,e1]
  repeat with_reducible refine zAt ?_
  generalize hq7:zGb=Z7
  generalize hq9:zGc=Z9
  refine zA8 (by repeat' constructor) (hsg) ?_
  refine goW ?_
  subst hq7
  obtain ⟨is,his⟩:∃ is,is=(zCi t.list).isSome:=⟨_,rfl⟩
  rw [←his]
  refine yZa s o x i is _ _ _ _ _ _ _ _ (fun b7 hb7=>?_)
  try simp (maxSteps:=2000000) only [go_sem]
  refine zAa (by rfl) trivial (fun h7=>?_) (fun h7=>?_)
  ·rw [hb7,Bool.and_eq_true] at h7
   have hs1:zCi t.list=some x:=by rw [hx];exact yB7 (by rw [←his];exact h7.1)
   obtain ⟨u,hnn,hts⟩:=yMV h7.2
   have hf:zFk o t (s.tests.length-(i+1))=.mk o.tag (o.tests++[.mk 14 [] [] 0 0 u.list]):=yMU hs1 hnn
   rw [hts]
   simp only [zCJ,zA1 u]
   refine goW ?_
   refine ⟨(i+1,.mk o.tag (o.tests++[.mk 14 [] [] 0 0 u.list])),by simp only;omega,⟨by simp only;omega,by simp only;rw [←hf];exact hinv,by simp only [St.tests_mk,List.length_append,List.length_cons,List.length_nil];omega⟩,?_⟩
   simp (maxSteps:=2000000) only [go_sem,zAu,zAE,zA9,zAv]
   all_goals (repeat' (first|exact trivial|exact zAI (by omega)|exact zAB rfl|exact zAU rfl|exact zAW|exact le_refl _|refine And.intro ?_ ?_))
   all_goals (first|exact zAU (by simp only [St.tag_mk])|(refine zBk ?_;simp only [St.tests_mk,zE1,zCJ,tsV] ; done)|(refine zBk ?_;simp only [St.tests_mk,zE1,zCJ,zA1]))
  ·subst hq9
   refine yZb s o i is _ _ _ _ _ _ _ _ _ _ _ (fun b9 hb9=>?_)
   try simp (maxSteps:=2000000) only [go_sem]
   refine zAa (by rfl) trivial (fun h9=>?_) (fun h9=>?_)
   ·rw [hb9,Bool.and_eq_true] at h9
    have hs1:zCi t.list=some x:=by rw [hx];exact yB7 (by rw [←his];exact h9.1)
    have hnn:zGF t x=none:=yF4 (by
     rw [hb7,h9.1,Bool.true_and] at h7
     exact h7)
    have hc:t.kind=14∧(x.tag=[]∨o.tag=[]∨x.tag=o.tag)∧o.tests.length+x.tests.length+(s.tests.length-(i+1))≤6:=by
     have h10:=h9.2
     simp only [ySn] at h10
     simp at h10 ⊢
     refine ⟨h10.1.1,by grind,by omega⟩
    by_cases hot:o.tag=[]
    ·have hf:zFk o t (s.tests.length-(i+1))=.mk x.tag (o.tests++x.tests):=by
      rw [zOl hs1 hnn hc,if_pos hot]
     refine goW ?_
     refine zE5 (by simp only [hot];rfl) trivial ?_
     refine goW ?_
     refine ⟨(i+1,.mk x.tag (o.tests++x.tests)),by simp only;omega,⟨by simp only;omega,by simp only;rw [←hf];exact hinv,by simp only [St.tests_mk,List.length_append,List.length_cons,List.length_nil];omega⟩,?_⟩
     simp (maxSteps:=2000000) only [go_sem,zAu,zAE,zA9,zAv]
     all_goals (repeat' (first|exact trivial|exact zAI (by omega)|exact zAB rfl|exact zAU rfl|exact zAW|exact le_refl _|refine And.intro ?_ ?_))
     all_goals (first|exact zAU (by simp only [St.tag_mk])|(refine zBk ?_;simp only [St.tests_mk,zE1,zCJ,tsV] ; done)|(refine zBk ?_;simp only [St.tests_mk,zE1,zCJ,zA1]))
    ·have hf:zFk o t (s.tests.length-(i+1))=.mk o.tag (o.tests++x.tests):=by
      rw [zOl hs1 hnn hc,if_neg hot]
     refine goW ?_
     refine zAa (by rfl) trivial (fun h11=>?_) (fun h11=>?_)
     ·exact (hot (by simpa using h11)).elim
     refine goW ?_
     refine ⟨(i+1,.mk o.tag (o.tests++x.tests)),by simp only;omega,⟨by simp only;omega,by simp only;rw [←hf];exact hinv,by simp only [St.tests_mk,List.length_append,List.length_cons,List.length_nil];omega⟩,?_⟩
     simp (maxSteps:=2000000) only [go_sem,zAu,zAE,zA9,zAv]
     all_goals (repeat' (first|exact trivial|exact zAI (by omega)|exact zAB rfl|exact zAU rfl|exact zAW|exact le_refl _|refine And.intro ?_ ?_))
     all_goals (first|exact zAU (by simp only [St.tag_mk])|(refine zBk ?_;simp only [St.tests_mk,zE1,zCJ,tsV] ; done)|(refine zBk ?_;simp only [St.tests_mk,zE1,zCJ,zA1]))
   ·have hf:zFk o t (s.tests.length-(i+1))=.mk o.tag (o.tests++[t]):=yQz fun y hy=>by
     have hxy:x=y:=by rw [hx];exact yGg hy
     subst hxy
     have hi1:is=true:=by rw [his,hy];rfl
     rw [hb7,hi1,Bool.true_and] at h7
     rw [hb9,hi1,Bool.true_and] at h9
     refine ⟨yF4 h7,fun hc=>?_⟩
     have:ySn o t.kind x.tag (decide ((o.tests.length:Int)+x.tests.length+s.tests.length-i-1≤6))=true:=by
      simp only [ySn]
      simp
      refine ⟨⟨hc.1,by grind⟩,by omega⟩
     rw [this] at h9
     cases h9
    refine goW ?_
    refine ⟨(i+1,.mk o.tag (o.tests++[t])),by simp only;omega,⟨by simp only;omega,by simp only;rw [←hf];exact hinv,by simp only [St.tests_mk,List.length_append,List.length_cons,List.length_nil];omega⟩,?_⟩
    simp (maxSteps:=2000000) only [go_sem,zAu,zAE,zA9,zAv]
    all_goals (repeat' (first|exact trivial|exact zAI (by omega)|exact zAB rfl|exact zAU rfl|exact zAW|exact le_refl _|refine And.intro ?_ ?_))
    all_goals (first|exact zAU (by simp only [St.tag_mk])|(refine zBk ?_;simp only [St.tests_mk,zE1,zCJ,tsV] ; done)|(refine zBk ?_;simp only [St.tests_mk,zE1,zCJ,zA1]))
 ·have hil:i=s.tests.length:=by simp at h2;omega
  rw [hil,List.drop_length] at hinv
  have hoR:o=R:=hinv
  have hol6:o.tests.length≤6:=by omega
  refine goW ?_
  refine zAc (fun j:Nat=>[(10,.pv (iv j)),(9,.own zAs 6 (zCJ (zCe zCP (o.tests.take j)))),(11,.un),(12,.un),(135,.un),(140,.un),(158,.un)]) (fun j:Nat=>o.tests.length-j) (fun j:Nat=>j≤o.tests.length) (0) ?_ (Nat.zero_le _) ?_
  focus (exact leA)
  rintro j hj
  refine goW ?_
  refine zAa (by rfl) trivial (fun h4=>?_) (fun h4=>?_)
  ·have hjl:j < o.tests.length:=by simp at h4;omega
   obtain ⟨t,ht⟩:∃ t,t=o.tests.getD j default:=⟨_,rfl⟩
   have e1:=zB4 o.tests j hjl
   rw [←ht] at e1
   have htk:=zJf zCP o.tests j hjl
   have hx2:o.tests[j]=t:=by rw [ht];simp [hjl]
   rw [hx2] at htk
   have hfl:=zEU zCP (o.tests.take j)
   rw [List.length_take] at hfl
   refine goW ?_
   refine zAc (fun x:Nat×Bool=>[(12,.pv (iv x.1)),(11,.pv (bv x.2)),(140,.un)]) (fun x:Nat×Bool=>j-x.1) (fun x:Nat×Bool=>x.1≤j∧x.2=(o.tests.take x.1).any (fun y=>zCP t y)) ((0,false)) ?_ ⟨Nat.zero_le _,by simp⟩ ?_
   focus (exact leA)
   rintro ⟨k,b⟩ ⟨hk,hb⟩
   simp only at hk hb
   refine goW ?_
   refine zAa (by rfl) trivial (fun h5=>?_) (fun h5=>?_)
   ·have hkj:k < j:=by simp at h5;omega
    have hkl:k < o.tests.length:=by omega
    obtain ⟨u,hu⟩:∃ u,u=o.tests.getD k default:=⟨_,rfl⟩
    have e2:=zB4 o.tests k hkl
    rw [←hu] at e2
    have hc:=ySh u t
    have hnext:=yGh hkl (fun y=>zCP t y)
    rw [←hu] at hnext
    rw [zA1] at e1 e2
    rw [zA1 u,zA1 t] at hc
    cases b
    ·try simp (maxSteps:=2000000) only [go_sem,e1,e2,Bool.not_true,Bool.not_false]
     repeat with_reducible refine zAt ?_
     apply zAo (h2:=fun _=>hc)
     ·(simp (maxSteps:=2000000) only [go_sem];rfl)
     ·intro h;repeat' (first|exact trivial|exact h|refine And.intro ?_ ?_)
     refine goW ?_
     refine ⟨(k+1,zCP u t),by simp only;omega,⟨by simp only;omega,?_⟩,?_⟩
     ·simp only
      rw [hnext,←hb,Bool.false_or,yOI]
     ·exact leA
    ·try simp (maxSteps:=2000000) only [go_sem,e1,e2,Bool.not_true,Bool.not_false]
     repeat with_reducible refine zAt ?_
     refine yIp (by rfl) ?_
     try simp (maxSteps:=2000000) only [go_sem,e1,e2,Bool.not_true,Bool.not_false]
     repeat with_reducible refine zAt ?_
     refine ⟨(k+1,true),by simp only;omega,⟨by simp only;omega,?_⟩,?_⟩
     ·simp only
      rw [hnext,←hb,Bool.true_or]
     ·exact leA
   ·have hkj:k=j:=by simp at h5;omega
    rw [hkj,←yOL zCP zOd] at hb
    rw [zA1] at e1
    try simp (maxSteps:=2000000) only [go_sem,e1]
    repeat with_reducible refine zAt ?_
    refine zAa (by rfl) trivial (fun h6=>?_) (fun h6=>?_)
    ·have hb2:b=false:=by simpa using h6
     rw [hb2] at hb
     try simp (maxSteps:=2000000) only [go_sem,e1]
     repeat with_reducible refine zAt ?_
     refine ⟨j+1,by omega,by omega,?_⟩
     simp (maxSteps:=2000000) only [go_sem,zAu,zAE,zA9,zAv]
     all_goals (repeat' (first|exact trivial|exact zAI (by omega)|exact zAB rfl|exact zAU rfl|exact zAW|exact le_refl _|refine And.intro ?_ ?_))
     refine zBk ?_
     rw [htk,zCh,if_neg (by rw [←hb];simp),zE1]
     simp only [zCJ,zA1]
    ·have hb2:b=true:=by simpa using h6
     rw [hb2] at hb
     refine goW ?_
     refine ⟨j+1,by omega,by omega,?_⟩
     simp (maxSteps:=2000000) only [go_sem,zAu,zAE,zA9,zAv]
     all_goals (repeat' (first|exact trivial|exact zAI (by omega)|exact zAB rfl|exact zAU rfl|exact zAW|exact le_refl _|refine And.intro ?_ ?_))
     refine zBk ?_
     rw [htk,zCh,if_pos hb.symm]
  ·have hjl:j=o.tests.length:=by simp at h4;omega
   rw [hjl,List.take_length]
   refine goW ?_
   refine zCH rfl rfl ?_
   rw [zXm,←hR,←hoR]
   rfl
end Go.Hx
end

section
set_option maxRecDepth 100000
set_option maxHeartbeats 4000000
namespace Go.Hx
open Go.Proofs
variable [Glob] [GlobL]
attribute [local go_sem] zAh zAj zAg zAd ndV zAm zAn zBZ zAD zAO zAQ List.nil_append atV yUM yUN yUO yBd zFO zW4 List.set_cons_zero List.set_cons_succ List.getD_cons_zero List.getD_cons_succ List.set_set List.length_set List.getD_nil Nat.sub_zero ovP ovS OVal.cells List.map_nil List.map_cons
attribute [local go_sem ↓] yNp yNq yWB
attribute [local go_sem] reduceCtorEq Nat.reduceAdd Nat.reduceEqDiff reduceIte Nat.reduceLeDiff Nat.reduceLT Nat.reduceSub
def gT (t:Ts):List OV:=(tsV t).map .p
def fT (t:Ts):List OV:=gT (onT t)
attribute [local go_sem] fT
def fS (s:St):List OV:=[.p (bS (onS s).tag),.p (.sl 6 (zCJ (onS s).tests))]
attribute [local go_sem] fS
def fP (p:Pt):List OV:=[.p (.sl 2 (zFG (yGx p.steps))),.p (.sl 1 (zAM p.links))]
attribute [local go_sem] fP
theorem yZc {b:Option Nat} {e:Nat} (l:List Ts):(OV.os b e 6 (l.map fT)).frz=some (.sl 6 (zCJ (zYi l))):=by
 refine yBs ?_
 have:l.map fT=(zCJ (zYi l)).map fun r=>r.map OV.p:=by
  rw [zEV,zOe,List.map_map,List.map_map];rfl
 rw [this,zFS]
attribute [local go_sem] yZc
theorem yZd {b:Option Nat} {e:Nat} (l:List St):(OV.os b e 2 (l.map fS)).frz=some (.sl 2 (zFG (yGx l))):=by
 refine yBs ?_
 have:l.map fS=(zFG (yGx l)).map fun r=>r.map OV.p:=by
  rw [zEl,zLf,List.map_map,List.map_map]
  refine List.map_congr_left fun s _=>?_
  simp only [Function.comp,zBg];rfl
 rw [this,zFS]
attribute [local go_sem] yZd
theorem ySo {l:List Ts} {i:Nat} (h:i < l.length):(zYi l).getD i default=onT (l.getD i default):=by simp [zOe,h]
theorem yMX (l:List Pt):(zQN l).length=l.length:=by simp [zGG]
theorem ySp (t:Ts):(onT t).list=onL t.list:=by rw [yQm];rfl
theorem yXg {l:List Pt} (h:shL l=true):(sgl l).tests.length≤6:=by
 cases hs:zCi l with
 |none=>unfold sgl;rw [hs];exact Nat.zero_le _
 |some x=>rw [yGg hs];exact yIP h hs
theorem yOR {l:List Pt} {k:Nat} (hk:k < l.length) (p:Pt→Bool):(l.take (k+1)).any p=((l.take k).any p||p (l.getD k default)):=by
 rw [zBT default hk,List.any_append,List.any_cons,List.any_nil,Bool.or_false]
theorem yB8:∀ (N:Nat) (l:List Pt),SizeOf.sizeOf l≤N→shL l=true→Contract Tryz.prog zEG [.val (.one (.sl 2 (zBx l)))] {res:=.own zAx 2 (zBx (onL l))}
 |0,l,h,_=>by have:=zFa l;omega
 |N+1,l,hN,hsh=>by
  have ih:=yB8 N
  obtain ⟨hlen,hshl⟩:=zOj hsh
  refine mkA yAT (base:=0) (fo rfl) (fun hfit=>?_)
  unfold F0 zOn
  refine goU ?_
  refine zUm (by repeat' constructor) (yXf l hsh) ?_
  refine goW ?_
  intro b
  have e0:yVm l=mix fP ovP l 0:=by rw [yRV];rfl
  rw [e0]
  refine goW ?_
  refine zAc (fun i:Nat=>[(4,.pv (iv i)),(3,.own zAx 2 (zBx (zCe zCx ((zQN l).take i)))),(0,.ov (.one (.os (some b) zAx 2 (mix fP ovP l i)))),(5,.un),(6,.un),(7,.un),(8,.un),(14,.un),(24,.un),(38,.un),(86,.un),(102,.un)]) (fun i:Nat=>l.length-i) (fun i:Nat=>i≤l.length) (0) ?_ (Nat.zero_le _) ?_
  focus (exact leA)
  rintro i hi
  refine goW ?_
  refine zAa (by rfl) trivial (fun h2=>?_) (fun h2=>?_)
  ·have hil:i < l.length:=by simp at h2;omega
   obtain ⟨p,hp⟩:∃ p,p=l.getD i default:=⟨_,rfl⟩
   obtain ⟨M,hM⟩:∃ M,M=mix fP ovP l i:=⟨_,rfl⟩
   have hMl:M.length=l.length:=by rw [hM,zW4]
   have hps:=hshl i hil
   have hszp:=zUu hil
   rw [←hp] at hps hszp
   have hszs:=zDs p
   obtain ⟨hs1,hs2,hs3⟩:=zOi hps
   have hset:=yFw (l:=M) (m:=i) (by omega)
   have hself:M=M.set i [.os none zBz 2 (mix fS ovS p.steps 0),.p (.sl 1 (zAM p.links))]:=yMw (by omega) (by rw [hM,yFu hil,yRV,hp];rfl)
   rw [←hM,hself]
   refine goW ?_
   refine zAc (fun k:Nat=>[(5,.pv (iv k)),(0,.ov (.one (.os (some b) zAx 2 (M.set i [.os none zBz 2 (mix fS ovS p.steps k),.p (.sl 1 (zAM p.links))])))),(6,.un),(24,.un),(38,.un)]) (fun k:Nat=>p.steps.length-k) (fun k:Nat=>k≤p.steps.length) (0) ?_ (Nat.zero_le _) ?_
   focus (exact leA)
   rintro k hk
   try simp (maxSteps:=2000000) only [go_sem,hset]
   repeat with_reducible refine zAt ?_
   refine zAa (by rfl) trivial (fun h4=>?_) (fun h4=>?_)
   ·have hkl:k < p.steps.length:=by simp at h4;omega
    obtain ⟨q,hq⟩:∃ q,q=p.steps.getD k default:=⟨_,rfl⟩
    obtain ⟨M1,hM1⟩:∃ M1,M1=mix fS ovS p.steps k:=⟨_,rfl⟩
    have hM1l:M1.length=p.steps.length:=by rw [hM1,zW4]
    have hsj:=hs3 k hkl
    have hszq:=zUt hkl
    rw [←hq] at hsj hszq
    have hszt:=zDr q
    obtain ⟨ht1,ht2⟩:=zOh hsj
    have hset1:=yFw (l:=M1) (m:=k) (by omega)
    have hself1:M1=M1.set k [.p (bS q.tag),.os none zAs 6 (mix fT gT q.tests 0)]:=yMw (by omega) (by rw [hM1,yFu hkl,yRV,hq];rfl)
    rw [←hM1,hself1]
    try simp (maxSteps:=2000000) only [go_sem,hset,hset1]
    repeat with_reducible refine zAt ?_
    intro b1
    refine ⟨by omega,fun b2=>?_⟩
    refine zAc (fun j:Nat=>[(6,.pv (iv j)),(0,.ov (.one (.os (some b) zAx 2 (M.set i [.os (some b1) zBz 2 (M1.set k [.p (bS q.tag),.os (some b2) zAs 6 (mix fT gT q.tests j)]),.p (.sl 1 (zAM p.links))])))),(38,.un)]) (fun j:Nat=>q.tests.length-j) (fun j:Nat=>j≤q.tests.length) (0) ?_ (Nat.zero_le _) ?_
    focus (exact leA)
    rintro j hj
    try simp (maxSteps:=2000000) only [go_sem,hset,hset1]
    repeat with_reducible refine zAt ?_
    refine zAa (by rfl) trivial (fun h6=>?_) (fun h6=>?_)
    ·have hjl:j < q.tests.length:=by simp at h6;omega
     obtain ⟨t,ht⟩:∃ t,t=q.tests.getD j default:=⟨_,rfl⟩
     have e3:(mix fT gT q.tests j).getD j []=gT t:=by rw [yFu hjl,ht]
     have e4:=yFv (f:=fT) (g:=gT) hjl
     have htk:=ht2 j hjl
     have hszu:=zUs hjl
     rw [←ht] at htk hszu e4
     have hszl:=zER t
     have hc:=ih t.list (by omega) htk
     simp only [gT,zA1,List.map_cons,List.map_nil] at e3
     try simp (maxSteps:=2000000) only [go_sem,hset,hset1,e3]
     repeat with_reducible refine zAt ?_
     refine zA3 (by repeat' constructor) (hc) ?_
     try simp (maxSteps:=2000000) only [go_sem,hset,hset1,e3]
     repeat with_reducible refine zAt ?_
     refine ⟨j+1,by omega,by omega,?_⟩
     simp (maxSteps:=2000000) only [go_sem,zAu,zAE,zA9,zAv]
     all_goals (repeat' (first|exact trivial|exact zAI (by omega)|exact zAB rfl|exact zAU rfl|exact zAW|exact le_refl _|refine And.intro ?_ ?_))
     refine zAU ?_
     rw [←e4,fT,gT,yQm]
     rfl
    ·have hjl:j=q.tests.length:=by simp at h6;omega
     subst hjl
     rw [yLa]
     have hc:=yOQ (.mk q.tag (zYi q.tests)) (by rw [St.tests_mk,yF3];exact ht1) (fun m hm=>by
      rw [St.tests_mk,yF3] at hm
      rw [St.tests_mk,ySo hm,ySp]
      exact yXg (yIM _ (ht2 m hm)))
     rw [←yS7,zBg,zBg (onS q)] at hc
     simp only [St.tag_mk,St.tests_mk] at hc
     have e4:=yFv (f:=fS) (g:=ovS) hkl
     rw [←hq] at e4
     try simp (maxSteps:=2000000) only [go_sem,hset,hset1]
     repeat with_reducible refine zAt ?_
     refine zAe (by repeat' constructor) (hc) ?_
     try simp (maxSteps:=2000000) only [go_sem,hset,hset1]
     repeat with_reducible refine zAt ?_
     refine ⟨k+1,by omega,by omega,?_⟩
     simp (maxSteps:=2000000) only [go_sem,zAu,zAE,zA9,zAv]
     all_goals (repeat' (first|exact trivial|exact zAI (by omega)|exact zAB rfl|exact zAU rfl|exact zAW|exact le_refl _|refine And.intro ?_ ?_))
     refine zAU ?_
     rw [←e4,←hM1,fS]
   ·have hkl:k=p.steps.length:=by simp at h4;omega
    subst hkl
    rw [yLa]
    obtain ⟨out,hout⟩:∃ out,out=zCe zCx ((zQN l).take i):=⟨_,rfl⟩
    have hil2:i < (zQN l).length:=by rw [yMX];exact hil
    have hol:=zEU zCx ((zQN l).take i)
    rw [←hout,List.length_take] at hol
    have htk:=zJf zCx (zQN l) i hil2
    have hx2:(zQN l)[i]=onP p:=by simp [zGG,hp,hil]
    rw [hx2,←hout] at htk
    have hoe:=yS6 p
    rw [←hout]
    try simp (maxSteps:=2000000) only [go_sem,hset]
    repeat with_reducible refine zAt ?_
    refine zAc (fun x:Nat×Bool=>[(8,.pv (iv x.1)),(7,.pv (bv x.2)),(86,.un)]) (fun x:Nat×Bool=>out.length-x.1) (fun x:Nat×Bool=>x.1≤out.length∧x.2=(out.take x.1).any (fun y=>zCx (onP p) y)) ((0,false)) ?_ ⟨Nat.zero_le _,by simp⟩ ?_
    focus (exact leA)
    rintro ⟨m,c⟩ ⟨hm,hc⟩
    simp only at hm hc
    refine goW ?_
    refine zAa (by rfl) trivial (fun h7=>?_) (fun h7=>?_)
    ·have hml:m < out.length:=by simp at h7;omega
     obtain ⟨y,hy⟩:∃ y,y=out.getD m default:=⟨_,rfl⟩
     have e5:=zBH out m hml
     have hnext:=yOR hml (fun y=>zCx (onP p) y)
     have hcc:=ySi y (onP p)
     rw [←hy] at e5 hnext
     rw [zA2,zA2 (onP p)] at hcc
     rw [zA2] at e5
     have h1:(onP p).steps=yGx p.steps:=by rw [hoe];rfl
     have h2:(onP p).links=p.links:=by rw [hoe];rfl
     rw [h1,h2] at hcc
     cases c
     ·try simp (maxSteps:=2000000) only [go_sem,hset,e5,Bool.not_true,Bool.not_false]
      repeat with_reducible refine zAt ?_
      apply zAo (h2:=fun _=>hcc)
      ·(simp (maxSteps:=2000000) only [go_sem];rfl)
      ·intro h;repeat' (first|exact trivial|exact h|refine And.intro ?_ ?_)
      try simp (maxSteps:=2000000) only [go_sem,hset,e5]
      repeat with_reducible refine zAt ?_
      refine ⟨(m+1,zCx y (onP p)),by simp only;omega,⟨by simp only;omega,?_⟩,?_⟩
      ·simp only
       rw [hnext,←hc,Bool.false_or,yOJ]
      ·exact leA
     ·try simp (maxSteps:=2000000) only [go_sem,hset,e5,Bool.not_true,Bool.not_false]
      repeat with_reducible refine zAt ?_
      refine yIp (by rfl) ?_
      try simp (maxSteps:=2000000) only [go_sem,hset,e5,Bool.not_true,Bool.not_false]
      repeat with_reducible refine zAt ?_
      refine ⟨(m+1,true),by simp only;omega,⟨by simp only;omega,?_⟩,?_⟩
      ·simp only
       rw [hnext,←hc,Bool.true_or]
      ·exact leA
    ·have hml:m=out.length:=by simp at h7;omega
     rw [hml,List.take_length] at hc
     have e4:=yFv (f:=fP) (g:=ovP) hil
     rw [←hp,←hM,fP] at e4
     refine goW ?_
     refine zAa (by rfl) trivial (fun h8=>?_) (fun h8=>?_)
     ·have hc2:c=false:=by simpa using h8
      rw [hc2] at hc
      try simp (maxSteps:=2000000) only [go_sem,hset]
      repeat with_reducible refine zAt ?_
      refine ⟨i+1,by omega,by omega,?_⟩
      simp (maxSteps:=2000000) only [go_sem,zAu,zAE,zA9,zAv]
      all_goals (repeat' (first|exact trivial|exact zAI (by omega)|exact zAB rfl|exact zAU rfl|exact zAW|exact le_refl _|refine And.intro ?_ ?_))
      ·refine zAU ?_
       rw [e4]
      ·refine zBk ?_
       rw [htk,zCh,if_neg (by rw [←hc];simp),yMz,hoe]
       rfl
     ·have hc2:c=true:=by simpa using h8
      rw [hc2] at hc
      refine goW ?_
      refine ⟨i+1,by omega,by omega,?_⟩
      simp (maxSteps:=2000000) only [go_sem,zAu,zAE,zA9,zAv]
      all_goals (repeat' (first|exact trivial|exact zAI (by omega)|exact zAB rfl|exact zAU rfl|exact zAW|exact le_refl _|refine And.intro ?_ ?_))
      ·refine zAU ?_
       rw [e4]
      ·refine zBk ?_
       rw [htk,zCh,if_pos hc.symm]
  ·have hil:i=l.length:=by simp at h2;omega
   have e:(zQN l).take i=zQN l:=by rw [hil,←yMX,List.take_length]
   rw [e]
   refine goW ?_
   refine zA3 (by repeat' constructor) (zTG _ (onL l) (Nat.le_refl _) (yIM _ hsh)) ?_
   refine goW ?_
   exact zDb rfl
theorem yU9 (l:List Pt) (h:shL l=true):Contract Tryz.prog zEG [.val (.one (.sl 2 (zBx l)))] {res:=.own zAx 2 (zBx (onL l))}:=yB8 _ l (Nat.le_refl _) h
end Go.Hx
end

section
set_option maxRecDepth 100000
set_option maxHeartbeats 4000000
namespace Go.Hx
open Go.Proofs
variable [Glob] [GlobL]
attribute [local go_sem] zAh zAj zAg zAd ndV zAm zAn zBZ zAD zAO zAQ
theorem yLC (l:List Pt):zCy l l=true:=(zEd l l).2 rfl
attribute [local go_sem] yLC
theorem ySq (l:List Pt) (h:shL l=true):Contract Tryz.prog zG4 [.val (.one (.sl 2 (zBx l)))] {res:=.own zAx 2 (zBx (plL l))}:=by
 refine mkA yAZ (base:=0) (fo rfl) (fun hfit=>?_)
 unfold F0 zOo
 refine goU ?_
 refine zAc (fun m:List Pt=>[(0,.pv (.one (.sl 2 (zBx m)))),(2,.un),(3,.un),(8,.un)]) (fun m:List Pt=>zJg m) (fun m:List Pt=>shL m=true∧plL m=plL l) (l) ?_ ⟨h,rfl⟩ ?_
 focus (exact leA)
 rintro m ⟨hsh,hpl⟩
 refine goW ?_
 refine zA3 (by repeat' constructor) (yU9 m hsh) ?_
 refine goW ?_
 refine zAe (by repeat' constructor) (yGf m (onL m)) ?_
 refine goW ?_
 refine zAa (by rfl) trivial (fun h4=>?_) (fun h4=>?_)
 ·refine goW ?_
  rw [←hpl,yQr h4]
  exact zDb rfl
 ·obtain ⟨g1,g2⟩:=yS9 h4
  refine goW ?_
  refine ⟨onL m,g2,⟨yIM m hsh,by rw [←g1];exact hpl⟩,?_⟩
  exact leA
end Go.Hx
end
