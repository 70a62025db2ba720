/-
  Walks of functions of the program over an abstract layer, and the laws that they use: each contract says what the function computes, for every input that its conditions let by. No other condition.
-/
import Derived.Test.YtjnagiaooecklabGreatDoorG11
import Derived.Test.YtjnagiaooecklabGreatDoorProg
import Derived.Test.YtjnagiaooecklabGreatDoorG9
set_option linter.all false
section
set_option maxRecDepth 100000
set_option linter.unusedSimpArgs false
namespace Go.Hx
open Go.Proofs
variable [Glob]
attribute [local go_sem] zAC zAz zAB zAw ndV zAx zAv fdV zBf zBW zBb zA7
attribute [local go_sem] reduceCtorEq Nat.reduceAdd Nat.reduceEqDiff reduceIte Nat.reduceLeDiff Nat.reduceLT Nat.reduceSub
theorem zBc {α:Type} {d:α} {l:List α} {i:Nat} (h:i<l.length):l.drop i=l.getD i d :: l.drop (i+1):=by
 rw [List.drop_eq_getElem_cons h]
 simp [h]
def yLd (P:Program) (N:Nat):Prop:=
 (∀ (l:List Pt) (d K:Nat) (c:Fd),SizeOf.sizeOf l≤N→d≤4→c.le K→K+bd d≤1000000000→Contract P zBD [.io (fdV c),.val (zBf l),.val (iv d)] { res:=.tup [],io:=fdV (c.add (ntL l d)) }) ∧
 (∀ (s:St) (d K:Nat) (c:Fd),SizeOf.sizeOf s≤N→d≤3→c.le K→K+bdS d≤1000000000→Contract P zCH [.io (fdV c),.val (.agg (stV s)),.val (iv d)] { res:=.tup [],io:=fdV (c.add (ntS s d)) })
theorem yEt (N:Nat) (ih:yLd Tryz.prog N) (l:List Pt) (d K:Nat) (c:Fd) (hN:SizeOf.sizeOf l≤N+1) (hd:d≤4) (hc:c.le K) (hK:K+bd d≤1000000000):Contract Tryz.prog zBD [.io (fdV c),.val (zBf l),.val (iv d)] { res:=.tup [],io:=fdV (c.add (ntL l d)) }:=by
 unfold fdV zBf
 refine mkA zLi (base:=83) ⟨Nat.le_of_ble_eq_true rfl,Nat.le_of_ble_eq_true rfl,Nat.le_of_ble_eq_true rfl,⟨rfl,rfl⟩⟩ (fun hfit=>?_)
 unfold F0 zGa
 simp only [yIn,Nat.reduceAdd,Nat.reduceSub]
 try simp only [go_sem]
 repeat with_reducible refine zAc ?_
 have hlb:(bif bif decide (3<(d:Int)) then true else decide ((l.length:Int)<1) then true else decide (5<(l.length:Int)))=zGG l d:=by
  have e1:decide (3<(d:Int))=decide (3<d):=decide_eq_decide.2 yO
  have e2:decide ((l.length:Int)<1)=decide (l.length<1):=decide_eq_decide.2 yO
  have e3:decide (5<(l.length:Int))=decide (5<l.length):=decide_eq_decide.2 yO
  unfold zGG
  rw [e1,e2,e3]
  cases decide (3<d) <;> cases decide (l.length<1) <;> rfl
 refine zAa yF trivial (fun h=>?_) (fun h=>?_)
 ·rw [hlb] at h
  have e:ntL l d=fM true:=by unfold ntL; rw [if_pos h]
  try simp only [go_sem]
  repeat with_reducible refine zAc ?_
  have hb1:=zWB (4 - d)
  have hb2:bd d=bdF (4 - d):=rfl
  have hm:=hc.m
  refine zCq yR (zWK c true yO) ?_
  try simp only [go_sem]
  repeat with_reducible refine zAc ?_
  rw [e]
  exact zU6 rfl rfl
 ·rw [hlb] at h
  have e:ntL l d=zZu l d:=by unfold ntL; rw [if_neg (by rw [h]; simp)]
  rw [e]
  have hd3:d≤3∧l.length≤5:=by
   simp only [zGG,Bool.or_eq_false_iff,decide_eq_false_iff_not] at h
   omega
  have hbd:=yHY hd3.1
  try simp only [go_sem]
  repeat with_reducible refine zAc ?_
  have hK0:K+(1+(l.length - 0) * bdP d)≤1000000000:=by
   have:(l.length - 0) * bdP d≤5 * bdP d:=Nat.mul_le_mul_right _ yO
   omega
  refine zAr (fun x:Nat × Fd=>[(7,.un),(9,.un),(11,.un),(28,.pv (iv x.1)),(29,.un),(51,.un),(55,.un),(56,.un),(57,.un),(58,.un),(71,.un),(72,.un),(73,.un),(74,.un),(84,.pv (.one (bI x.2.f))),(85,.pv (.one (bI x.2.m))),(86,.pv (.one (bI x.2.r))),(87,.pv (.one (bI x.2.k))),(90,.un),(91,.un)]) (fun x:Nat × Fd=>l.length - x.1) (fun x:Nat × Fd=>x.1≤l.length∧(∃ K',x.2.le K'∧K'+(1+(l.length - x.1) * bdP d)≤1000000000)∧x.2.add (zZu (l.drop x.1) d)=c.add (zZu l d)) ((0,c)) ?_ ⟨Nat.zero_le _,⟨K,hc,hK0⟩,by simp⟩ ?_
  focus (simp only [go_sem,zAf,zAl,zAs,zAb]; all_goals exact yLe)
  rintro ⟨i,a⟩ ⟨hi,⟨K',ha,hK'⟩,hsum⟩
  simp only at hi ha hK' hsum
  try simp only [go_sem]
  repeat with_reducible refine zAc ?_
  have hbx:bd d≤1000000000:=by omega
  refine zAa yF trivial (fun h2=>?_) (fun h2=>?_)
  ·have hil:i<l.length:=by simp at h2; omega
   rw [zBc (d:=default) hil] at hsum
   obtain ⟨p,hp⟩:∃ p,p=l.getD i default:=⟨_,rfl⟩
   rw [← hp] at hsum
   have hg:(zFl l).getD i []=[.sl 2 (zMn p.steps),.sl 1 (zEK p.links)]:=by rw [zB5 l i hil,← hp,zBB]
   have hsz:SizeOf.sizeOf p.steps≤N:=by
    have h3:=zG5 p
    have h4:=yCL hil
    rw [← hp] at h4
    omega
   have hmul:(l.length - i) * bdP d=bdP d+(l.length - (i+1)) * bdP d:=by
    have:l.length - i=(l.length - (i+1))+1:=by omega
    rw [this,Nat.add_mul]; omega
   have hbp:bdP d=4+5 * bdS d:=rfl
   have hin:(bif decide ((p.steps.length:Int)<1) then true else decide (5<(p.steps.length:Int)))=false→inR .i64 ((p.steps.length:Int) - 1):=by
    intro h5
    have:¬ 5<(p.steps.length:Int):=by
     intro h6
     rw [decide_eq_true h6] at h5
     cases hq:decide ((p.steps.length:Int)<1) <;> rw [hq] at h5 <;> cases h5
    exact zEk yO yO
   try simp only [go_sem,hg]
   repeat with_reducible refine zAc ?_
   have hpb:(bif bif decide ((p.steps.length:Int)<1) then true else decide (5<(p.steps.length:Int)) then true else (p.links.length:Int) != (p.steps.length:Int) - 1)=yAE p:=by
    have e2:decide ((p.steps.length:Int)<1)=decide (p.steps.length<1):=decide_eq_decide.2 yO
    have e3:decide (5<(p.steps.length:Int))=decide (5<p.steps.length):=decide_eq_decide.2 yO
    have e4:((p.links.length:Int) != (p.steps.length:Int) - 1)=decide ((p.links.length:Int)≠p.steps.length - 1):=by
     by_cases h5:(p.links.length:Int)=(p.steps.length:Int) - 1 <;> simp [h5]
    unfold yAE
    rw [e2,e3,e4]
    cases decide (p.steps.length<1) <;> cases decide (5<p.steps.length) <;> rfl
   simp only [zZu] at hsum
   refine zAa yF trivial (fun h3=>?_) (fun h3=>?_)
   ·rw [hpb] at h3
    rw [if_pos h3] at hsum
    rw [← hsum]
    try simp only [go_sem]
    repeat with_reducible refine zAc ?_
    have hm:=ha.m
    refine zCq yR (zWK a true yO) ?_
    try simp only [go_sem]
    repeat with_reducible refine zAc ?_
    exact zU6 rfl rfl
   ·rw [hpb] at h3
    rw [if_neg (by rw [h3]; simp)] at hsum
    have hpl:p.steps.length≤5∧(p.links.length:Int)=p.steps.length - 1:=by
     simp only [yAE,Bool.or_eq_false_iff,decide_eq_false_iff_not] at h3
     omega
    have hK1:K'+(p.links.length - 0)≤K'+4:=by omega
    try simp only [go_sem]
    repeat with_reducible refine zAc ?_
    refine zAr (fun x:Nat × Fd=>[(9,.un),(57,.pv (iv x.1)),(58,.un),(67,.un),(84,.pv (.one (bI x.2.f))),(85,.pv (.one (bI x.2.m))),(86,.pv (.one (bI x.2.r))),(87,.pv (.one (bI x.2.k)))]) (fun x:Nat × Fd=>p.links.length - x.1) (fun x:Nat × Fd=>x.1≤p.links.length∧(∃ K2,x.2.le K2∧K2+(p.links.length - x.1)≤K'+4)∧x.2.add (yBv (p.links.drop x.1))=a.add (yBv p.links)) ((0,a)) ?_ ⟨Nat.zero_le _,⟨K',ha,hK1⟩,by simp⟩ ?_
    focus (simp only [go_sem,zAf,zAl,zAs,zAb]; all_goals exact yLe)
    rintro ⟨j,b⟩ ⟨hj,⟨K2,hb,hK2⟩,hsb⟩
    simp only at hj hb hK2 hsb
    try simp only [go_sem]
    repeat with_reducible refine zAc ?_
    refine zAa yF trivial (fun h4=>?_) (fun h4=>?_)
    ·have hjl:j<p.links.length:=by simp at h4; omega
     rw [zBc (d:=0) hjl] at hsb
     have hg2:=zEj p.links j hjl
     obtain ⟨v,hv⟩:∃ v,v=p.links.getD j 0:=⟨_,rfl⟩
     rw [← hv] at hg2 hsb
     have hvb:(bif decide (v<1) then true else decide (4<v))=zN2 v:=by
      unfold zN2
      by_cases h5:v<1 <;> by_cases h6:4<v <;> simp [h5,h6] <;> omega
     have hk:=hb.k
     try simp only [go_sem,hg2]
     repeat with_reducible refine zAc ?_
     refine zCq yR (yBN b (bif decide (v<1) then true else decide (4<v)) yO) ?_
     try simp only [go_sem,hvb]
     repeat with_reducible refine zAc ?_
     refine ⟨(j+1,b.add (fK (zN2 v))),by simp only; omega,⟨by simp only; omega,⟨K2+1,hb.le_add (yHZ _),by simp only; omega⟩,?_⟩,?_⟩
     ·simp only
      rw [← hsb,Fd.add_assoc]
      congr 1
      simp only [yBv,Fd.add,fK,List.countP_cons,nB]
      congr 1
      split <;> omega
     ·simp only [go_sem,zAf,zAl,zAs,zAb]
      all_goals exact yLe
    ·have hjl:j=p.links.length:=by simp at h4; omega
     subst hjl
     rw [List.drop_length] at hsb
     have e5:b=a.add (yBv p.links):=by
      rw [← hsb]
      simp [yBv,Fd.add]
     have hK3:K2≤K'+4:=by omega
     have hK4:K2+(p.steps.length - 0) * bdS d≤K'+bdP d:=by
      have:(p.steps.length - 0) * bdS d≤5 * bdS d:=Nat.mul_le_mul_right _ yO
      omega
     try simp only [go_sem]
     repeat with_reducible refine zAc ?_
     refine zAr (fun x:Nat × Fd=>[(11,.un),(73,.pv (iv x.1)),(74,.un),(84,.pv (.one (bI x.2.f))),(85,.pv (.one (bI x.2.m))),(86,.pv (.one (bI x.2.r))),(87,.pv (.one (bI x.2.k))),(90,.un),(91,.un)]) (fun x:Nat × Fd=>p.steps.length - x.1) (fun x:Nat × Fd=>x.1≤p.steps.length∧(∃ K3,x.2.le K3∧K3+(p.steps.length - x.1) * bdS d≤K'+bdP d)∧x.2.add (yBw (p.steps.drop x.1) d)=b.add (yBw p.steps d)) ((0,b)) ?_ ⟨Nat.zero_le _,⟨K2,hb,hK4⟩,by simp⟩ ?_
     focus (simp only [go_sem,zAf,zAl,zAs,zAb]; all_goals exact yLe)
     rintro ⟨k,e6⟩ ⟨hk,⟨K3,he6,hK5⟩,hse⟩
     simp only at hk he6 hK5 hse
     try simp only [go_sem]
     repeat with_reducible refine zAc ?_
     refine zAa yF trivial (fun h6=>?_) (fun h6=>?_)
     ·have hkl:k<p.steps.length:=by simp at h6; omega
      rw [zBc (d:=default) hkl] at hse
      obtain ⟨q,hq⟩:∃ q,q=p.steps.getD k default:=⟨_,rfl⟩
      rw [← hq] at hse
      have hg3:(zMn p.steps).getD k []=[bS q.tag,.sl 6 (zUk q.tests)]:=by rw [zC1 _ k hkl,← hq,zBh]
      have hqs:SizeOf.sizeOf q≤N:=by
       have h7:=yCK hkl
       rw [← hq] at h7
       omega
      have hmul2:(p.steps.length - k) * bdS d=bdS d+(p.steps.length - (k+1)) * bdS d:=by
       have:p.steps.length - k=(p.steps.length - (k+1))+1:=by omega
       rw [this,Nat.add_mul]; omega
      have hst:=ih.2 q d K3 e6 hqs hd3.1 he6 yO
      rw [zBh] at hst
      unfold fdV at hst
      try simp only [go_sem,hg3]
      repeat with_reducible refine zAc ?_
      refine zCq yR (hst) ?_
      try simp only [go_sem]
      repeat with_reducible refine zAc ?_
      refine ⟨(k+1,e6.add (ntS q d)),by simp only; omega,⟨by simp only; omega,⟨K3+bdS d,he6.le_add (b_S q d),by simp only; omega⟩,?_⟩,?_⟩
      ·simp only [yBw] at hse ⊢
       rw [← hse,Fd.add_assoc]
      ·simp only [go_sem,zAf,zAl,zAs,zAb]
       all_goals exact yLe
     ·have hkl:k=p.steps.length:=by simp at h6; omega
      subst hkl
      rw [List.drop_length] at hse
      have e7:e6=b.add (yBw p.steps d):=by rw [← hse]; rfl
      try simp only [go_sem]
      repeat with_reducible refine zAc ?_
      refine ⟨(i+1,e6),by simp only; omega,⟨by simp only; omega,⟨K3,he6,by simp only; omega⟩,?_⟩,?_⟩
      ·simp only
       rw [← hsum,e7,e5,yJJ,Fd.add_assoc,Fd.add_assoc,Fd.add_assoc]
      ·simp only [go_sem,zAf,zAl,zAs,zAb]
       all_goals exact yLe
  ·have hil:i=l.length:=by simp at h2; omega
   subst hil
   rw [List.drop_length] at hsum
   try simp only [go_sem]
   repeat with_reducible refine zAc ?_
   rw [← hsum]
   exact zCn rfl rfl
end Go.Hx
end

section
/-
 The abstract code of functions of the program, printed by gen.py; each stands for the given one. No condition.
-/
namespace Go.Hx
open Go.Proofs
variable [Glob]
abbrev zBQ:Nat:=26
abbrev zDZ:Nat:=70
abbrev zD0:Nat:=129
abbrev zD1:Nat:=183
abbrev zN5:HCode:=oN [oV 2 (.boxF (.t 0)),
  oV 3 (.boxF (.t 1)),
  oV 4 (.mv (.c (bv false)))]
abbrev zN6:HCode:=oR [oV 5 (.fldR (.t 2) 0 1),
  oV 6 (.ldR (.t 5) 1 false),
  oV 7 (.fldR (.t 3) 0 1),
  oV 8 (.ldR (.t 7) 1 false),
  oV 9 (.ints .eql (.t 6) (.t 8)),
  oV 10 (.mv (.t 9)),
  oG 10 true 11 (.fldR (.t 2) 1 1),
  oG 10 true 12 (.ldR (.t 11) 1 false),
  oG 10 true 13 (.fldR (.t 3) 1 1),
  oG 10 true 14 (.ldR (.t 13) 1 false),
  oG 10 true 15 (.strs .eql (.t 12) (.t 14)),
  oV 16 (.pick (.t 10) (.t 15) (.c (bv false))),
  oV 17 (.mv (.t 16)),
  oG 17 true 18 (.fldR (.t 2) 2 1),
  oG 17 true 19 (.ldR (.t 18) 1 false),
  oG 17 true 20 (.fldR (.t 3) 2 1),
  oG 17 true 21 (.ldR (.t 20) 1 false),
  oG 17 true 22 (.strs .eql (.t 19) (.t 21)),
  oV 23 (.pick (.t 17) (.t 22) (.c (bv false))),
  oV 24 (.mv (.t 23)),
  oG 24 true 25 (.fldR (.t 2) 3 2),
  oG 24 true 26 (.ldR (.t 25) 2 true),
  oG 24 true 27 (.fldR (.t 3) 3 2),
  oG 24 true 28 (.ldR (.t 27) 2 true),
  oG 24 true 29 (.steq false [0,0] (.t 26) (.t 28)),
  oV 30 (.pick (.t 24) (.t 29) (.c (bv false))),
  oV 31 (.mv (.t 30)),
  oG 31 true 32 (.fldR (.t 2) 5 1),
  oG 31 true 33 (.ldR (.t 32) 1 false),
  oG 31 true 34 (.fldR (.t 3) 5 1),
  oG 31 true 35 (.ldR (.t 34) 1 false),
  ⟨some (31,true),.call (some 36) zBQ [(.t 33,.v),(.t 35,.v)]⟩,
  oV 37 (.pick (.t 31) (.t 36) (.c (bv false))),
  oV 4 (.mv (.t 37))] [5,6,7,8,9,10,11,12,13,14,15,16,17,18,19,20,21,22,23,24,25,26,27,28,29,30,31,32,33,34,35,36,37]
abbrev zWM:HCode:=(.seq zN5 (.seq zN6 .ret))
abbrev zGM:Env:={ N:=38,Γ:=[],L:=38,nfix:=0 }
abbrev ref_SameTests_R:List RSrc:=[.tmp 4]
theorem zN7:zCu Tryz.prog zD1 zWM zGM ref_SameTests_R:=by kernel_rfl
abbrev zN8:HCode:=oN [oV 2 (.boxF (.t 0)),
  oV 3 (.boxF (.t 1)),
  oV 4 (.mv (.c (bv false)))]
abbrev zN9:HCode:=oR [oV 6 (.fldR (.t 2) 0 1),
  oV 7 (.ldR (.t 6) 1 false),
  oV 8 (.fldR (.t 3) 0 1),
  oV 9 (.ldR (.t 8) 1 false),
  oV 10 (.strs .neq (.t 7) (.t 9)),
  oV 11 (.mv (.t 10)),
  oG 11 false 12 (.fldR (.t 2) 1 1),
  oG 11 false 13 (.ldR (.t 12) 1 false),
  oG 11 false 14 (.len false (.t 13)),
  oG 11 false 15 (.fldR (.t 3) 1 1),
  oG 11 false 16 (.ldR (.t 15) 1 false),
  oG 11 false 17 (.len false (.t 16)),
  oG 11 false 18 (.ints .neq (.t 14) (.t 17)),
  oV 19 (.pick (.t 11) (.c (bv true)) (.t 18))] [6,7,8,9,10,11,12,13,14,15,16,17,18]
abbrev zOa:HCode:=oN [oV 4 (.mv (.c (bv false)))]
abbrev zOb:HCode:=oN [oV 5 (.mv (.c (iv 0)))]
abbrev zOc:HCode:=oR [oV 20 (.mv (.t 5)),
  oV 21 (.fldR (.t 2) 1 1),
  oV 22 (.ldR (.t 21) 1 false),
  oV 23 (.len false (.t 22)),
  oV 24 (.ints .lss (.t 20) (.t 23))] [20,21,22,23]
abbrev zOd:HCode:=oQ [oD 0 false (oV 27 (.fldR (.t 2) 1 1)),
  oD 1 false (oV 28 (.ldR (.t 27) 1 false)),
  oD 2 false (oV 29 (.mv (.t 5))),
  oD 3 false (oV 30 (.idxA 6 (.t 28) (.t 29))),
  oD 4 false (oV 31 (.ldR (.t 30) 6 true)),
  oD 5 false (oV 32 (.fldR (.t 3) 1 1)),
  oD 6 false (oV 33 (.ldR (.t 32) 1 false)),
  oD 7 false (oV 34 (.mv (.t 5))),
  oD 8 false (oV 35 (.idxA 6 (.t 33) (.t 34))),
  oD 9 false (oV 36 (.ldR (.t 35) 6 true)),
  oD 10 true (oC 37 zD1 [(.t 31,.v),(.t 36,.v)]),
  oD 11 false (oV 38 (.not (.t 37)))] [27,28,29,30,31,32,33,34,35,36,37]
abbrev zOe:HCode:=oN [oV 4 (.mv (.c (bv false)))]
abbrev zOf:HCode:=oR [oV 25 (.mv (.t 5)),
  oV 26 (.ints .add (.t 25) (.c (iv 1))),
  oV 5 (.mv (.t 26))] [25,26]
abbrev zOg:HCode:=oN [oV 4 (.mv (.c (bv true)))]
abbrev zWN:HCode:=(.seq zN8 (.seq (.seq zN9 (.cond (.t 19) (.seq zOa .ret) .skip)) (.seq (.seq zOb (.block 0 (.loop (.seq (.seq zOc (.cond (.t 24) .skip (.exit 0))) (.seq (.block 1 (.seq zOd (.cond (.t 38) (.seq zOe .ret) .skip))) zOf))))) (.seq zOg .ret))))
abbrev zGN:Env:={ N:=39,Γ:=[],L:=39,nfix:=0 }
abbrev ref_SameSteps_R:List RSrc:=[.tmp 4]
theorem zOh:zCu Tryz.prog zD0 zWN zGN ref_SameSteps_R:=by kernel_rfl
abbrev zOi:HCode:=oN [oV 2 (.boxF (.t 0)),
  oV 3 (.boxF (.t 1)),
  oV 4 (.mv (.c (bv false)))]
abbrev zOj:HCode:=oR [oV 6 (.fldR (.t 2) 0 1),
  oV 7 (.ldR (.t 6) 1 false),
  oV 8 (.len false (.t 7)),
  oV 9 (.fldR (.t 3) 0 1),
  oV 10 (.ldR (.t 9) 1 false),
  oV 11 (.len false (.t 10)),
  oV 12 (.ints .neq (.t 8) (.t 11)),
  oV 13 (.mv (.t 12)),
  oG 13 false 14 (.fldR (.t 2) 1 1),
  oG 13 false 15 (.ldR (.t 14) 1 false),
  oG 13 false 16 (.fldR (.t 3) 1 1),
  oG 13 false 17 (.ldR (.t 16) 1 false),
  ⟨some (13,false),.call (some 18) zEl [(.t 15,.v),(.t 17,.v)]⟩,
  oG 13 false 19 (.not (.t 18)),
  oV 20 (.pick (.t 13) (.c (bv true)) (.t 19))] [6,7,8,9,10,11,12,13,14,15,16,17,18,19]
abbrev zOk:HCode:=oN [oV 4 (.mv (.c (bv false)))]
abbrev zOl:HCode:=oN [oV 5 (.mv (.c (iv 0)))]
abbrev zOm:HCode:=oR [oV 21 (.mv (.t 5)),
  oV 22 (.fldR (.t 2) 0 1),
  oV 23 (.ldR (.t 22) 1 false),
  oV 24 (.len false (.t 23)),
  oV 25 (.ints .lss (.t 21) (.t 24))] [21,22,23,24]
abbrev zOn:HCode:=oQ [oD 0 false (oV 28 (.fldR (.t 2) 0 1)),
  oD 1 false (oV 29 (.ldR (.t 28) 1 false)),
  oD 2 false (oV 30 (.mv (.t 5))),
  oD 3 false (oV 31 (.idxA 2 (.t 29) (.t 30))),
  oD 4 false (oV 32 (.ldR (.t 31) 2 true)),
  oD 5 false (oV 33 (.fldR (.t 3) 0 1)),
  oD 6 false (oV 34 (.ldR (.t 33) 1 false)),
  oD 7 false (oV 35 (.mv (.t 5))),
  oD 8 false (oV 36 (.idxA 2 (.t 34) (.t 35))),
  oD 9 false (oV 37 (.ldR (.t 36) 2 true)),
  oD 10 true (oC 38 zD0 [(.t 32,.v),(.t 37,.v)]),
  oD 11 false (oV 39 (.not (.t 38)))] [28,29,30,31,32,33,34,35,36,37,38]
abbrev zOo:HCode:=oN [oV 4 (.mv (.c (bv false)))]
abbrev zOp:HCode:=oR [oV 26 (.mv (.t 5)),
  oV 27 (.ints .add (.t 26) (.c (iv 1))),
  oV 5 (.mv (.t 27))] [26,27]
abbrev zOq:HCode:=oN [oV 4 (.mv (.c (bv true)))]
abbrev zWO:HCode:=(.seq zOi (.seq (.seq zOj (.cond (.t 20) (.seq zOk .ret) .skip)) (.seq (.seq zOl (.block 0 (.loop (.seq (.seq zOm (.cond (.t 25) .skip (.exit 0))) (.seq (.block 1 (.seq zOn (.cond (.t 39) (.seq zOo .ret) .skip))) zOp))))) (.seq zOq .ret))))
abbrev zGO:Env:={ N:=40,Γ:=[],L:=40,nfix:=0 }
abbrev ref_SamePaths_R:List RSrc:=[.tmp 4]
theorem zOr:zCu Tryz.prog zDZ zWO zGO ref_SamePaths_R:=by kernel_rfl
abbrev zOs:HCode:=oN [oV 4 (.mv (.c (bv false)))]
abbrev zOt:HCode:=oR [oV 6 (.mv (.t 0)),
  oV 7 (.len false (.t 6)),
  oV 8 (.mv (.t 1)),
  oV 9 (.len false (.t 8)),
  oV 10 (.ints .neq (.t 7) (.t 9))] [6,7,8,9]
abbrev zOu:HCode:=oN [oV 4 (.mv (.c (bv false)))]
abbrev zOv:HCode:=oN [oV 5 (.mv (.c (iv 0)))]
abbrev zOw:HCode:=oR [oV 11 (.mv (.t 5)),
  oV 12 (.mv (.t 0)),
  oV 13 (.len false (.t 12)),
  oV 14 (.ints .lss (.t 11) (.t 13))] [11,12,13]
abbrev zOx:HCode:=oQ [oD 0 false (oV 17 (.mv (.t 0))),
  oD 1 false (oV 18 (.mv (.t 5))),
  oD 2 false (oV 19 (.idxA 2 (.t 17) (.t 18))),
  oD 3 false (oV 20 (.ldR (.t 19) 2 true)),
  oD 4 false (oV 21 (.mv (.t 1))),
  oD 5 false (oV 22 (.mv (.t 5))),
  oD 6 false (oV 23 (.idxA 2 (.t 21) (.t 22))),
  oD 7 false (oV 24 (.ldR (.t 23) 2 true)),
  oD 8 true (oC 25 zDZ [(.t 20,.v),(.t 24,.v)]),
  oD 9 false (oV 26 (.not (.t 25)))] [17,18,19,20,21,22,23,24,25]
abbrev zOy:HCode:=oN [oV 4 (.mv (.c (bv false)))]
abbrev zOz:HCode:=oR [oV 15 (.mv (.t 5)),
  oV 16 (.ints .add (.t 15) (.c (iv 1))),
  oV 5 (.mv (.t 16))] [15,16]
abbrev zOA:HCode:=oN [oV 4 (.mv (.c (bv true)))]
abbrev zWP:HCode:=(.seq zOs (.seq (.seq zOt (.cond (.t 10) (.seq zOu .ret) .skip)) (.seq (.seq zOv (.block 0 (.loop (.seq (.seq zOw (.cond (.t 14) .skip (.exit 0))) (.seq (.block 1 (.seq zOx (.cond (.t 26) (.seq zOy .ret) .skip))) zOz))))) (.seq zOA .ret))))
abbrev zGP:Env:={ N:=27,Γ:=[],L:=27,nfix:=0 }
abbrev ref_SameLists_R:List RSrc:=[.tmp 4]
theorem zOB:zCu Tryz.prog zBQ zWP zGP ref_SameLists_R:=by kernel_rfl
end Go.Hx
end

section
namespace Go.Hx
open Go.Proofs
variable [Glob]
attribute [local go_sem] zAC zAz zAB zAw ndV zAx
attribute [local go_sem] reduceCtorEq Nat.reduceAdd Nat.reduceEqDiff reduceIte Nat.reduceLeDiff Nat.reduceLT Nat.reduceSub
theorem zCc (n lo hi:Int):Contract Tryz.prog zAW [.val (iv n),.val (iv lo),.val (iv hi)] { res:=.val (bv (decide (lo≤n∧n≤hi))) }:=by
 refine mkA zIX (base:=0) (fo rfl) (fun hfit=>?_)
 unfold F0 zGv
 simp only [yIn,Nat.reduceAdd,Nat.reduceSub]
 try simp only [go_sem]
 repeat with_reducible refine zAc ?_
 refine zAq rfl trivial (.inl ?_)
 congr 3
 by_cases h1:lo≤n <;> by_cases h2:n≤hi <;> simp [h1,h2]
theorem zMt (s:Bys):Contract Tryz.prog zD9 [.val (sv s)] { res:=.val (bv (zB3 s)) }:=by
 refine mkA zVk (base:=0) (fo rfl) (fun hfit=>?_)
 unfold F0 zMf
 simp only [yIn,Nat.reduceAdd,Nat.reduceSub]
 try simp only [go_sem]
 repeat with_reducible refine zAc ?_
 refine zAd yR (zCc _ _ _) ?_
 try simp only [go_sem]
 repeat with_reducible refine zAc ?_
 refine zAa yF trivial (fun h=>?_) (fun h=>?_)
 ·try simp only [go_sem]
  repeat with_reducible refine zAc ?_
  refine zAq rfl trivial (.inl ?_)
  congr 3
  cases hn:zB3 s with
  |false=>rfl
  |true=>exfalso; simp [zB3] at hn h; omega
 have hl:s.length≤12:=by simp at h; omega
 try simp only [go_sem]
 repeat with_reducible refine zAc ?_
 refine zAr (fun i:Nat=>[(3,.pv (iv i)),(4,.un),(22,.un),(46,.un)]) (fun i=>s.length - i) (fun i=>i≤s.length∧(s.take i).all nameCh=true) 0 ?_ ⟨Nat.zero_le _,rfl⟩ ?_
 ·simp only [go_sem,zAf,zAl,zAs,zAb]
 intro i ⟨hi,hall⟩
 try simp only [go_sem]
 repeat with_reducible refine zAc ?_
 refine zAa yF trivial (fun h2=>?_) (fun h2=>?_)
 ·have hlt:i<s.length:=by simpa using h2
  try simp only [go_sem]
  repeat with_reducible refine zAc ?_
  refine zAa yF trivial (fun h3=>?_) (fun h3=>?_)
  ·try simp only [go_sem]
   repeat with_reducible refine zAc ?_
   refine zAq rfl trivial (.inl ?_)
   congr 3
   cases hn:zB3 s with
   |false=>rfl
   |true=>
    exfalso
    simp only [zB3,Bool.and_eq_true,List.all_eq_true] at hn
    have h4:=hn.2 (s.getD i 0) (by simp [hlt])
    simp [nameCh,hlt] at h3 h4
    omega
  ·try simp only [go_sem]
   repeat with_reducible refine zAc ?_
   refine ⟨i+1,by omega,⟨hlt,?_⟩,?_⟩
   ·rw [zD8 hlt (d:=0),hall]
    simp [nameCh,hlt] at h3 ⊢
    omega
   ·simp only [go_sem,zAf,zAl,zAs,zAb]
    exact zAi yO
 ·try simp only [go_sem]
  repeat with_reducible refine zAc ?_
  refine zAq rfl trivial (.inl ?_)
  congr 3
  have hi2:i=s.length:=by simp at h2; omega
  subst hi2
  simp [zB3] at hall h ⊢
  exact ⟨by omega,hall⟩
theorem zWQ (s:Bys):Contract Tryz.prog zE2 [.val (sv s)] { res:=.val (bv (zCR s)) }:=by
 refine mkA zSz (base:=0) (fo rfl) (fun hfit=>?_)
 unfold F0 zIY
 simp only [yIn,Nat.reduceAdd,Nat.reduceSub]
 try simp only [go_sem]
 repeat with_reducible refine zAc ?_
 refine zAa yF trivial (fun h=>?_) (fun h=>?_)
 ·try simp only [go_sem]
  repeat with_reducible refine zAc ?_
  refine zAq rfl trivial (.inl ?_)
  simp [zCR] at h ⊢
  intro h'; omega
 have hl:s.length≤16:=by simp at h; omega
 try simp only [go_sem]
 repeat with_reducible refine zAc ?_
 refine zAr (fun i:Nat=>[(3,.pv (iv i)),(10,.un),(28,.un)]) (fun i=>s.length - i) (fun i=>i≤s.length∧(s.take i).all zZQ=true) 0 ?_ ⟨Nat.zero_le _,rfl⟩ ?_
 ·simp only [go_sem,zAf,zAl,zAs,zAb]
 intro i ⟨hi,hall⟩
 try simp only [go_sem]
 repeat with_reducible refine zAc ?_
 refine zAa yF trivial (fun h=>?_) (fun h=>?_)
 ·have hlt:i<s.length:=by simpa using h
  try simp only [go_sem]
  repeat with_reducible refine zAc ?_
  refine zAa yF trivial (fun h2=>?_) (fun h2=>?_)
  ·try simp only [go_sem]
   repeat with_reducible refine zAc ?_
   refine zAq rfl trivial (.inl ?_)
   congr 3
   cases hn:zCR s with
   |false=>rfl
   |true=>
    exfalso
    simp only [zCR,Bool.and_eq_true,List.all_eq_true] at hn
    have h4:=hn.2 (s.getD i 0) (by simp [hlt])
    simp [zZQ,hlt] at h2 h4
    omega
  ·try simp only [go_sem]
   repeat with_reducible refine zAc ?_
   refine ⟨i+1,by omega,⟨hlt,?_⟩,?_⟩
   ·rw [zD8 hlt (d:=0),hall]
    simp [zZQ,hlt] at h2 ⊢
    omega
   ·simp only [go_sem,zAf,zAl,zAs,zAb]
    exact zAi yO
 ·try simp only [go_sem]
  repeat with_reducible refine zAc ?_
  refine zAq rfl trivial (.inl ?_)
  have hi2:i=s.length:=by simp at h; omega
  subst hi2
  simp [zCR,hl] at hall ⊢
  exact hall
end Go.Hx
end

section
set_option maxRecDepth 100000
set_option linter.unusedSimpArgs false
namespace Go.Hx
open Go.Proofs
variable [Glob]
attribute [local go_sem] zAC zAz zAB zAw ndV zAx
attribute [local go_sem] reduceCtorEq Nat.reduceAdd Nat.reduceEqDiff reduceIte Nat.reduceLeDiff Nat.reduceLT Nat.reduceSub
theorem zTI (a b:List Int):Contract Tryz.prog zEl [.val (.one (.sl 1 (zEK a))),.val (.one (.sl 1 (zEK b)))] { res:=.val (bv (decide (a=b))) }:=by
 refine mkA zQh (base:=0) (fo rfl) (fun hfit=>?_)
 unfold F0 zHq
 simp only [yIn,Nat.reduceAdd,Nat.reduceSub]
 try simp only [go_sem]
 repeat with_reducible refine zAc ?_
 have hm:=yHJ (k:=1) hfit.1
 rw [zAw] at hm
 refine zAa yF trivial (fun h=>?_) (fun h=>?_)
 ·try simp only [go_sem]
  repeat with_reducible refine zAc ?_
  refine zAq rfl trivial (.inl ?_)
  congr 3
  simp [zAw] at h
  exact decide_eq_false (fun e=>h (by subst e; rfl))
 have hl:a.length=b.length:=by simp [zAw] at h; omega
 try simp only [go_sem]
 repeat with_reducible refine zAc ?_
 refine zAr (fun i:Nat=>[(5,.pv (iv i)),(14,.un),(25,.un)]) (fun i=>a.length - i) (fun i=>i≤a.length∧a.take i=b.take i) 0 ?_ ⟨Nat.zero_le _,rfl⟩ ?_
 ·simp only [go_sem,zAf,zAl,zAs,zAb]
 intro i ⟨hi,heq⟩
 try simp only [go_sem,zAw]
 repeat with_reducible refine zAc ?_
 refine zAa yF trivial (fun h2=>?_) (fun h2=>?_)
 ·have hlt:i<a.length:=by simpa using h2
  have hltb:i<b.length:=by omega
  try simp only [go_sem,zEj _ _ hlt,zEj _ _ hltb,zAw]
  repeat with_reducible refine zAc ?_
  refine zAa yF trivial (fun h3=>?_) (fun h3=>?_)
  ·try simp only [go_sem]
   repeat with_reducible refine zAc ?_
   refine zAq rfl trivial (.inl ?_)
   congr 3
   simp only [bne_iff_ne,ne_eq] at h3
   exact (decide_eq_false (yCi 0 h3))
  ·try simp only [go_sem]
   repeat with_reducible refine zAc ?_
   refine ⟨i+1,by omega,⟨hlt,zXW 0 heq hlt hltb ?_⟩,?_⟩
   ·simpa only [bne_eq_false_iff_eq] using h3
   ·simp only [go_sem,zAf,zAl,zAs,zAb]
    exact zAi yO
 ·try simp only [go_sem]
  repeat with_reducible refine zAc ?_
  refine zAq rfl trivial (.inl ?_)
  congr 3
  have hi2:i=a.length:=by simp at h2; omega
  subst hi2
  exact decide_eq_true (yCj hl heq)
end Go.Hx
end

section
/-
 The abstract code of functions of the program, printed by gen.py; each stands for the given one. No condition.
-/
namespace Go.Hx
open Go.Proofs
variable [Glob]
abbrev zEG:Nat:=52
abbrev zA2:Nat:=50
abbrev zDu:Nat:=254
abbrev zAU:Nat:=109
abbrev zBq:Nat:=218
abbrev zBr:Nat:=161
abbrev zBX:Nat:=219
abbrev zDa:Nat:=275
abbrev zDv:Nat:=106
abbrev zJF:HCode:=oN [oV 2 (.mv (.c (sv [])))]
abbrev zJG:HCode:=oN [oV 3 (.mv (.c (iv 0)))]
abbrev zJH:HCode:=oR [oV 5 (.mv (.t 3)),
  oV 6 (.mv (.t 0)),
  oV 7 (.nilck (.t 6)),
  oV 8 (.fldP (.t 7) 0),
  oV 9 (.ldB (.t 8) 0 75 0 1 false),
  oV 10 (.len true (.t 9)),
  oV 11 (.ints .lss (.t 5) (.t 10)),
  oV 12 (.mv (.t 11)),
  oG 12 true 13 (.mv (.t 0)),
  oG 12 true 14 (.nilck (.t 13)),
  oG 12 true 15 (.fldP (.t 14) 0),
  oG 12 true 16 (.ldB (.t 15) 0 75 0 1 false),
  oG 12 true 17 (.mv (.t 3)),
  oG 12 true 18 (.idxS (.t 16) (.t 17)),
  oG 12 true 19 (.ints .geq (.t 18) (.c (.one (.v (.int .u8 97))))),
  oG 12 true 20 (.mv (.t 19)),
  oG 20 true 21 (.mv (.t 0)),
  oG 20 true 22 (.nilck (.t 21)),
  oG 20 true 23 (.fldP (.t 22) 0),
  oG 20 true 24 (.ldB (.t 23) 0 75 0 1 false),
  oG 20 true 25 (.mv (.t 3)),
  oG 20 true 26 (.idxS (.t 24) (.t 25)),
  oG 20 true 27 (.ints .leq (.t 26) (.c (.one (.v (.int .u8 122))))),
  oG 12 true 28 (.pick (.t 20) (.t 27) (.c (bv false))),
  oG 12 true 29 (.mv (.t 28)),
  oG 29 false 30 (.mv (.t 0)),
  oG 29 false 31 (.nilck (.t 30)),
  oG 29 false 32 (.fldP (.t 31) 0),
  oG 29 false 33 (.ldB (.t 32) 0 75 0 1 false),
  oG 29 false 34 (.mv (.t 3)),
  oG 29 false 35 (.idxS (.t 33) (.t 34)),
  oG 29 false 36 (.ints .geq (.t 35) (.c (.one (.v (.int .u8 48))))),
  oG 29 false 37 (.mv (.t 36)),
  oG 37 true 38 (.mv (.t 0)),
  oG 37 true 39 (.nilck (.t 38)),
  oG 37 true 40 (.fldP (.t 39) 0),
  oG 37 true 41 (.ldB (.t 40) 0 75 0 1 false),
  oG 37 true 42 (.mv (.t 3)),
  oG 37 true 43 (.idxS (.t 41) (.t 42)),
  oG 37 true 44 (.ints .leq (.t 43) (.c (.one (.v (.int .u8 57))))),
  oG 29 false 45 (.pick (.t 37) (.t 44) (.c (bv false))),
  oG 12 true 46 (.pick (.t 29) (.c (bv true)) (.t 45)),
  oG 12 true 47 (.mv (.t 46)),
  oG 47 false 48 (.mv (.t 0)),
  oG 47 false 49 (.nilck (.t 48)),
  oG 47 false 50 (.fldP (.t 49) 0),
  oG 47 false 51 (.ldB (.t 50) 0 75 0 1 false),
  oG 47 false 52 (.mv (.t 3)),
  oG 47 false 53 (.idxS (.t 51) (.t 52)),
  oG 47 false 54 (.ints .eql (.t 53) (.c (.one (.v (.int .u8 45))))),
  oG 12 true 55 (.pick (.t 47) (.c (bv true)) (.t 54)),
  oV 56 (.pick (.t 12) (.t 55) (.c (bv false)))] [5,6,7,8,9,10,11,12,13,14,15,16,17,18,19,20,21,22,23,24,25,26,27,28,29,30,31,32,33,34,35,36,37,38,39,40,41,42,43,44,45,46,47,48,49,50,51,52,53,54,55]
abbrev zJI:HCode:=oR [oV 57 (.mv (.t 3)),
  oV 58 (.ints .add (.t 57) (.c (iv 1))),
  oV 3 (.mv (.t 58))] [57,58]
abbrev zJJ:HCode:=oR [oV 59 (.mv (.t 0)),
  oV 60 (.nilck (.t 59)),
  oV 61 (.fldP (.t 60) 0),
  oV 62 (.ldB (.t 61) 0 75 0 1 false),
  oV 63 (.mv (.t 3)),
  oV 64 (.sls (.t 62) none (some (.t 63))),
  oV 4 (.mv (.t 64))] [59,60,61,62,63,64]
abbrev zJK:HCode:=oR [oV 65 (.mv (.t 0)),
  oV 66 (.mv (.t 0)),
  oV 67 (.nilck (.t 66)),
  oV 68 (.fldP (.t 67) 0),
  oV 69 (.ldB (.t 68) 0 75 0 1 false),
  oV 70 (.mv (.t 3)),
  oV 71 (.sls (.t 69) (some (.t 70)) none),
  oV 72 (.nilck (.t 65)),
  oV 73 (.fldP (.t 72) 0),
  ⟨none,.sto (.t 73) 0 75 0 1 (.t 71)⟩] [65,66,67,68,69,70,71,72,73]
abbrev zJL:HCode:=oR [oV 74 (.mv (.t 4)),
  oV 2 (.mv (.t 74))] [74]
abbrev zRA:HCode:=(.seq zJF (.seq zJG (.seq (.block 0 (.loop (.seq (.seq zJH (.cond (.t 56) .skip (.exit 0))) (.block 1 zJI)))) (.seq zJJ (.seq zJK (.seq zJL .ret))))))
abbrev zFr:Env:={ N:=75,Γ:=[(75,1)],L:=76,nfix:=1 }
abbrev ref_reader_name_R:List RSrc:=[.tmp 2]
theorem zJM:zCu Tryz.prog zBq zRA zFr ref_reader_name_R:=by kernel_rfl
abbrev zHU:HCode:=oN [oV 2 (.mv (.c (sv [])))]
abbrev zHV:HCode:=oN [oV 3 (.mv (.c (iv 0)))]
abbrev zHW:HCode:=oR [oV 5 (.mv (.t 3)),
  oV 6 (.mv (.t 0)),
  oV 7 (.nilck (.t 6)),
  oV 8 (.fldP (.t 7) 0),
  oV 9 (.ldB (.t 8) 0 39 0 1 false),
  oV 10 (.len true (.t 9)),
  oV 11 (.ints .lss (.t 5) (.t 10)),
  oV 12 (.mv (.t 11)),
  oG 12 true 13 (.mv (.t 0)),
  oG 12 true 14 (.nilck (.t 13)),
  oG 12 true 15 (.fldP (.t 14) 0),
  oG 12 true 16 (.ldB (.t 15) 0 39 0 1 false),
  oG 12 true 17 (.mv (.t 3)),
  oG 12 true 18 (.idxS (.t 16) (.t 17)),
  oG 12 true 19 (.ints .neq (.t 18) (.c (.one (.v (.int .u8 34))))),
  oV 20 (.pick (.t 12) (.t 19) (.c (bv false)))] [5,6,7,8,9,10,11,12,13,14,15,16,17,18,19]
abbrev zHX:HCode:=oR [oV 21 (.mv (.t 3)),
  oV 22 (.ints .add (.t 21) (.c (iv 1))),
  oV 3 (.mv (.t 22))] [21,22]
abbrev zHY:HCode:=oR [oV 23 (.mv (.t 0)),
  oV 24 (.nilck (.t 23)),
  oV 25 (.fldP (.t 24) 0),
  oV 26 (.ldB (.t 25) 0 39 0 1 false),
  oV 27 (.mv (.t 3)),
  oV 28 (.sls (.t 26) none (some (.t 27))),
  oV 4 (.mv (.t 28))] [23,24,25,26,27,28]
abbrev zHZ:HCode:=oR [oV 29 (.mv (.t 0)),
  oV 30 (.mv (.t 0)),
  oV 31 (.nilck (.t 30)),
  oV 32 (.fldP (.t 31) 0),
  oV 33 (.ldB (.t 32) 0 39 0 1 false),
  oV 34 (.mv (.t 3)),
  oV 35 (.sls (.t 33) (some (.t 34)) none),
  oV 36 (.nilck (.t 29)),
  oV 37 (.fldP (.t 36) 0),
  ⟨none,.sto (.t 37) 0 39 0 1 (.t 35)⟩] [29,30,31,32,33,34,35,36,37]
abbrev zH0:HCode:=oR [oV 38 (.mv (.t 4)),
  oV 2 (.mv (.t 38))] [38]
abbrev zOC:HCode:=(.seq zHU (.seq zHV (.seq (.block 0 (.loop (.seq (.seq zHW (.cond (.t 20) .skip (.exit 0))) (.block 1 zHX)))) (.seq zHY (.seq zHZ (.seq zH0 .ret))))))
abbrev zEZ:Env:={ N:=39,Γ:=[(39,1)],L:=40,nfix:=1 }
abbrev ref_reader_value_R:List RSrc:=[.tmp 2]
theorem zH1:zCu Tryz.prog zDa zOC zEZ ref_reader_value_R:=by kernel_rfl
abbrev zRB:HCode:=oN [oV 1 (.boxF (.t 0)),
  oV 2 (.mv (.c (sv [])))]
abbrev zRC:HCode:=oR [oV 3 (.fldR (.t 1) 0 1),
  oV 4 (.ldR (.t 3) 1 false)] [3]
abbrev zRD:HCode:=oR [oV 6 (.ints .eql (.t 4) (.c (iv 1))),
  oV 5 (.mv (.t 6))] [6]
abbrev zRE:HCode:=oR [oV 7 (.fldR (.t 1) 1 1),
  oV 8 (.ldR (.t 7) 1 false),
  oV 9 (.strs .add (.c (sv [46])) (.t 8)),
  oV 2 (.mv (.t 9))] [7,8,9]
abbrev zRF:HCode:=oR [oV 11 (.ints .eql (.t 4) (.c (iv 2))),
  oV 10 (.mv (.t 11))] [11]
abbrev zRG:HCode:=oR [oV 12 (.fldR (.t 1) 1 1),
  oV 13 (.ldR (.t 12) 1 false),
  oV 14 (.strs .add (.c (sv [35])) (.t 13)),
  oV 2 (.mv (.t 14))] [12,13,14]
abbrev zRH:HCode:=oR [oV 16 (.ints .eql (.t 4) (.c (iv 3))),
  oV 15 (.mv (.t 16))] [16]
abbrev zRI:HCode:=oR [oV 17 (.fldR (.t 1) 1 1),
  oV 18 (.ldR (.t 17) 1 false),
  oV 19 (.strs .add (.c (sv [91])) (.t 18)),
  oV 20 (.strs .add (.t 19) (.c (sv [93]))),
  oV 2 (.mv (.t 20))] [17,18,19,20]
abbrev zRJ:HCode:=oR [oV 22 (.ints .eql (.t 4) (.c (iv 4))),
  oV 21 (.mv (.t 22))] [22]
abbrev zRK:HCode:=oR [oV 23 (.fldR (.t 1) 1 1),
  oV 24 (.ldR (.t 23) 1 false),
  oV 25 (.strs .add (.c (sv [91])) (.t 24)),
  oV 26 (.strs .add (.t 25) (.c (sv [61,34]))),
  oV 27 (.fldR (.t 1) 2 1),
  oV 28 (.ldR (.t 27) 1 false),
  oV 29 (.strs .add (.t 26) (.t 28)),
  oV 30 (.strs .add (.t 29) (.c (sv [34,93]))),
  oV 2 (.mv (.t 30))] [23,24,25,26,27,28,29,30]
abbrev zOD:HCode:=oR [oV 32 (.ints .eql (.t 4) (.c (iv 5))),
  oV 31 (.mv (.t 32))] [32]
abbrev zOE:HCode:=oR [oV 33 (.fldR (.t 1) 1 1),
  oV 34 (.ldR (.t 33) 1 false),
  oV 35 (.strs .add (.c (sv [91])) (.t 34)),
  oV 36 (.strs .add (.t 35) (.c (sv [94,61,34]))),
  oV 37 (.fldR (.t 1) 2 1),
  oV 38 (.ldR (.t 37) 1 false),
  oV 39 (.strs .add (.t 36) (.t 38)),
  oV 40 (.strs .add (.t 39) (.c (sv [34,93]))),
  oV 2 (.mv (.t 40))] [33,34,35,36,37,38,39,40]
abbrev zOF:HCode:=oR [oV 42 (.ints .eql (.t 4) (.c (iv 6))),
  oV 41 (.mv (.t 42))] [42]
abbrev zOG:HCode:=oR [oV 43 (.fldR (.t 1) 1 1),
  oV 44 (.ldR (.t 43) 1 false),
  oV 45 (.strs .add (.c (sv [91])) (.t 44)),
  oV 46 (.strs .add (.t 45) (.c (sv [36,61,34]))),
  oV 47 (.fldR (.t 1) 2 1),
  oV 48 (.ldR (.t 47) 1 false),
  oV 49 (.strs .add (.t 46) (.t 48)),
  oV 50 (.strs .add (.t 49) (.c (sv [34,93]))),
  oV 2 (.mv (.t 50))] [43,44,45,46,47,48,49,50]
abbrev zOH:HCode:=oR [oV 52 (.ints .eql (.t 4) (.c (iv 7))),
  oV 51 (.mv (.t 52))] [52]
abbrev zOI:HCode:=oR [oV 53 (.fldR (.t 1) 1 1),
  oV 54 (.ldR (.t 53) 1 false),
  oV 55 (.strs .add (.c (sv [91])) (.t 54)),
  oV 56 (.strs .add (.t 55) (.c (sv [42,61,34]))),
  oV 57 (.fldR (.t 1) 2 1),
  oV 58 (.ldR (.t 57) 1 false),
  oV 59 (.strs .add (.t 56) (.t 58)),
  oV 60 (.strs .add (.t 59) (.c (sv [34,93]))),
  oV 2 (.mv (.t 60))] [53,54,55,56,57,58,59,60]
abbrev zOJ:HCode:=oR [oV 62 (.ints .eql (.t 4) (.c (iv 8))),
  oV 61 (.mv (.t 62))] [62]
abbrev zOK:HCode:=oR [oV 63 (.fldR (.t 1) 1 1),
  oV 64 (.ldR (.t 63) 1 false),
  oV 65 (.strs .add (.c (sv [91])) (.t 64)),
  oV 66 (.strs .add (.t 65) (.c (sv [126,61,34]))),
  oV 67 (.fldR (.t 1) 2 1),
  oV 68 (.ldR (.t 67) 1 false),
  oV 69 (.strs .add (.t 66) (.t 68)),
  oV 70 (.strs .add (.t 69) (.c (sv [34,93]))),
  oV 2 (.mv (.t 70))] [63,64,65,66,67,68,69,70]
abbrev zOL:HCode:=oR [oV 72 (.ints .eql (.t 4) (.c (iv 9))),
  oV 71 (.mv (.t 72))] [72]
abbrev zOM:HCode:=oR [oV 73 (.fldR (.t 1) 3 2),
  oV 74 (.ldR (.t 73) 2 true),
  oC 75 zDL [(.t 74,.v)],
  oV 76 (.strs .add (.c (sv [58,110,116,104,40])) (.t 75)),
  oV 77 (.strs .add (.t 76) (.c (sv [41]))),
  oV 2 (.mv (.t 77))] [73,74,75,76,77]
abbrev zON:HCode:=oR [oV 79 (.ints .eql (.t 4) (.c (iv 10))),
  oV 78 (.mv (.t 79))] [79]
abbrev zOO:HCode:=oR [oV 80 (.fldR (.t 1) 3 2),
  oV 81 (.ldR (.t 80) 2 true),
  oC 82 zDL [(.t 81,.v)],
  oV 83 (.strs .add (.c (sv [58,108,97,115,116,40])) (.t 82)),
  oV 84 (.strs .add (.t 83) (.c (sv [41]))),
  oV 2 (.mv (.t 84))] [80,81,82,83,84]
abbrev zOP:HCode:=oR [oV 86 (.ints .eql (.t 4) (.c (iv 11))),
  oV 85 (.mv (.t 86))] [86]
abbrev zOQ:HCode:=oN [oV 2 (.mv (.c (sv [58,101,109,112,116,121])))]
abbrev zOR:HCode:=oR [oV 88 (.ints .eql (.t 4) (.c (iv 12))),
  oV 87 (.mv (.t 88))] [88]
abbrev zOS:HCode:=oN [oV 2 (.mv (.c (sv [58,114,111,111,116])))]
abbrev zOT:HCode:=oR [oV 90 (.ints .eql (.t 4) (.c (iv 13))),
  oV 89 (.mv (.t 90))] [90]
abbrev zOU:HCode:=oR [oV 91 (.fldR (.t 1) 5 1),
  oV 92 (.ldR (.t 91) 1 false),
  oC 93 zA2 [(.t 92,.v)],
  oV 94 (.strs .add (.c (sv [58,110,111,116,40])) (.t 93)),
  oV 95 (.strs .add (.t 94) (.c (sv [41]))),
  oV 2 (.mv (.t 95))] [91,92,93,94,95]
abbrev zOV:HCode:=oR [oV 97 (.ints .eql (.t 4) (.c (iv 14))),
  oV 96 (.mv (.t 97))] [97]
abbrev zOW:HCode:=oR [oV 98 (.fldR (.t 1) 5 1),
  oV 99 (.ldR (.t 98) 1 false),
  oC 100 zA2 [(.t 99,.v)],
  oV 101 (.strs .add (.c (sv [58,105,115,40])) (.t 100)),
  oV 102 (.strs .add (.t 101) (.c (sv [41]))),
  oV 2 (.mv (.t 102))] [98,99,100,101,102]
abbrev zOX:HCode:=oR [oV 103 (.fldR (.t 1) 5 1),
  oV 104 (.ldR (.t 103) 1 false),
  oC 105 zA2 [(.t 104,.v)],
  oV 106 (.strs .add (.c (sv [58,104,97,115,40])) (.t 105)),
  oV 107 (.strs .add (.t 106) (.c (sv [41]))),
  oV 2 (.mv (.t 107))] [103,104,105,106,107]
abbrev zZi:HCode:=(.seq zRB (.seq (.seq zRC (.block 0 (.seq zRD (.cond (.t 5) (.seq zRE .ret) (.seq zRF (.cond (.t 10) (.seq zRG .ret) (.seq zRH (.cond (.t 15) (.seq zRI .ret) (.seq zRJ (.cond (.t 21) (.seq zRK .ret) (.seq zOD (.cond (.t 31) (.seq zOE .ret) (.seq zOF (.cond (.t 41) (.seq zOG .ret) (.seq zOH (.cond (.t 51) (.seq zOI .ret) (.seq zOJ (.cond (.t 61) (.seq zOK .ret) (.seq zOL (.cond (.t 71) (.seq zOM .ret) (.seq zON (.cond (.t 78) (.seq zOO .ret) (.seq zOP (.cond (.t 85) (.seq zOQ .ret) (.seq zOR (.cond (.t 87) (.seq zOS .ret) (.seq zOT (.cond (.t 89) (.seq zOU .ret) (.seq zOV (.cond (.t 96) (.seq zOW .ret) .skip)))))))))))))))))))))))))))))) (.seq zOX .ret)))
abbrev zHx:Env:={ N:=108,Γ:=[],L:=108,nfix:=0 }
abbrev ref_testText_R:List RSrc:=[.tmp 2]
theorem zRL:zCu Tryz.prog zDv zZi zHx ref_testText_R:=by kernel_rfl
abbrev zRM:HCode:=oN [oV 2 (.mv (.c (sv [])))]
abbrev zRN:HCode:=oN [oV 3 (.mv (.c (sv [])))]
abbrev zRO:HCode:=oN [oV 4 (.mv (.c (iv 0)))]
abbrev zRP:HCode:=oR [oV 8 (.mv (.t 4)),
  oV 9 (.mv (.t 0)),
  oV 10 (.len false (.t 9)),
  oV 11 (.ints .lss (.t 8) (.t 10))] [8,9,10]
abbrev zRQ:HCode:=oR [oV 14 (.mv (.t 4)),
  oV 15 (.ints .gtr (.t 14) (.c (iv 0)))] [14]
abbrev zRR:HCode:=oR [oV 16 (.mv (.t 3)),
  oV 17 (.strs .add (.t 16) (.c (sv [44,32]))),
  oV 3 (.mv (.t 17))] [16,17]
abbrev zRS:HCode:=oN [oV 5 (.mv (.c (iv 0)))]
abbrev zRT:HCode:=oR [oV 18 (.mv (.t 5)),
  oV 19 (.mv (.t 0)),
  oV 20 (.mv (.t 4)),
  oV 21 (.idxA 2 (.t 19) (.t 20)),
  oV 22 (.fldR (.t 21) 0 1),
  oV 23 (.ldR (.t 22) 1 false),
  oV 24 (.len false (.t 23)),
  oV 25 (.ints .lss (.t 18) (.t 24))] [18,19,20,21,22,23,24]
abbrev zRU:HCode:=oR [oV 28 (.mv (.t 5)),
  oV 29 (.ints .gtr (.t 28) (.c (iv 0)))] [28]
abbrev zRV:HCode:=oR [oV 30 (.mv (.t 3)),
  oV 31 (.bslF 1 [.c (sv []),.c (sv [32]),.c (sv [32,62,32]),.c (sv [32,43,32]),.c (sv [32,126,32])]),
  oV 32 (.mv (.t 0)),
  oV 33 (.mv (.t 4)),
  oV 34 (.idxA 2 (.t 32) (.t 33)),
  oV 35 (.fldR (.t 34) 1 1),
  oV 36 (.ldR (.t 35) 1 false),
  oV 37 (.mv (.t 5)),
  oV 38 (.ints .sub (.t 37) (.c (iv 1))),
  oV 39 (.idxA 1 (.t 36) (.t 38)),
  oV 40 (.ldR (.t 39) 1 false),
  oV 41 (.idxA 1 (.t 31) (.t 40)),
  oV 42 (.ldR (.t 41) 1 false),
  oV 43 (.strs .add (.t 30) (.t 42)),
  oV 3 (.mv (.t 43))] [30,31,32,33,34,35,36,37,38,39,40,41,42,43]
abbrev zOY:HCode:=oR [oV 44 (.mv (.t 0)),
  oV 45 (.mv (.t 4)),
  oV 46 (.idxA 2 (.t 44) (.t 45)),
  oV 47 (.fldR (.t 46) 0 1),
  oV 48 (.ldR (.t 47) 1 false),
  oV 49 (.mv (.t 5)),
  oV 50 (.idxA 2 (.t 48) (.t 49)),
  oV 51 (.ldR (.t 50) 2 true),
  ⟨none,.alloc 6 0 77 [.v (mkS []),.nl 6]⟩,
  ⟨none,.sto (.t 6) 0 77 0 2 (.t 51)⟩] [44,45,46,47,48,49,50,51]
abbrev zOZ:HCode:=oR [oV 52 (.fldP (.t 6) 0),
  oV 53 (.ldB (.t 52) 0 77 0 1 false),
  oV 54 (.strs .eql (.t 53) (.c (sv [])))] [52,53]
abbrev zO0:HCode:=oR [oV 55 (.mv (.t 3)),
  oV 56 (.strs .add (.t 55) (.c (sv [42]))),
  oV 3 (.mv (.t 56))] [55,56]
abbrev zO1:HCode:=oR [oV 57 (.mv (.t 3)),
  oV 58 (.fldP (.t 6) 0),
  oV 59 (.ldB (.t 58) 0 77 0 1 false),
  oV 60 (.strs .add (.t 57) (.t 59)),
  oV 3 (.mv (.t 60))] [57,58,59,60]
abbrev zO2:HCode:=oN [oV 7 (.mv (.c (iv 0)))]
abbrev zO3:HCode:=oR [oV 61 (.mv (.t 7)),
  oV 62 (.fldP (.t 6) 1),
  oV 63 (.ldB (.t 62) 0 77 1 1 false),
  oV 64 (.len false (.t 63)),
  oV 65 (.ints .lss (.t 61) (.t 64))] [61,62,63,64]
abbrev zO4:HCode:=oR [oV 68 (.mv (.t 3)),
  oV 69 (.fldP (.t 6) 1),
  oV 70 (.ldB (.t 69) 0 77 1 1 false),
  oV 71 (.mv (.t 7)),
  oV 72 (.idxA 6 (.t 70) (.t 71)),
  oV 73 (.ldR (.t 72) 6 true),
  oC 74 zDv [(.t 73,.v)],
  oV 75 (.strs .add (.t 68) (.t 74)),
  oV 3 (.mv (.t 75))] [68,69,70,71,72,73,74,75]
abbrev zO5:HCode:=oR [oV 66 (.mv (.t 7)),
  oV 67 (.ints .add (.t 66) (.c (iv 1))),
  oV 7 (.mv (.t 67))] [66,67]
abbrev zO6:HCode:=oR [oV 26 (.mv (.t 5)),
  oV 27 (.ints .add (.t 26) (.c (iv 1))),
  oV 5 (.mv (.t 27))] [26,27]
abbrev zO7:HCode:=oR [oV 12 (.mv (.t 4)),
  oV 13 (.ints .add (.t 12) (.c (iv 1))),
  oV 4 (.mv (.t 13))] [12,13]
abbrev zO8:HCode:=oR [oV 76 (.mv (.t 3)),
  oV 2 (.mv (.t 76))] [76]
abbrev zZj:HCode:=(.seq zRM (.seq zRN (.seq (.seq zRO (.block 0 (.loop (.seq (.seq zRP (.cond (.t 11) .skip (.exit 0))) (.seq (.block 1 (.seq (.seq zRQ (.cond (.t 15) zRR .skip)) (.seq zRS (.block 2 (.loop (.seq (.seq zRT (.cond (.t 25) .skip (.exit 2))) (.seq (.block 3 (.seq (.seq zRU (.cond (.t 29) zRV .skip)) (.seq zOY (.seq (.seq zOZ (.cond (.t 54) zO0 .skip)) (.seq zO1 (.seq zO2 (.block 4 (.loop (.seq (.seq zO3 (.cond (.t 65) .skip (.exit 4))) (.seq (.block 5 zO4) zO5)))))))))) zO6))))))) zO7))))) (.seq zO8 .ret))))
abbrev zHy:Env:={ N:=77,Γ:=[(77,2)],L:=79,nfix:=0 }
abbrev ref_ListText_R:List RSrc:=[.tmp 2]
theorem zRW:zCu Tryz.prog zA2 zZj zHy ref_ListText_R:=by kernel_rfl
abbrev zJN:HCode:=oN [⟨none,.alloc 2 1 37 [.v (.int .i64 0),.v (mkS []),.v (mkS []),.v (.int .i64 0),.v (.int .i64 0),.nl 2]⟩]
abbrev zJO:HCode:=oR [oV 6 (.mv (.t 0)),
  oC 7 zBq [(.t 6,.i 0 36 1)],
  oV 8 (.bld [.v (.int .i64 0),.v (mkS []),.v (mkS []),.v (.int .i64 0),.v (.int .i64 0),.nl 2] [(1,1,.t 7),(0,1,.c (iv 3))]),
  ⟨none,.alloc 3 2 43 [.v (.int .i64 0),.v (mkS []),.v (mkS []),.v (.int .i64 0),.v (.int .i64 0),.nl 2]⟩,
  ⟨none,.sto (.t 3) 2 43 0 6 (.t 8)⟩] [6,7,8]
abbrev zJP:HCode:=oR [oV 9 (.bslF 1 [.c (sv [61,34]),.c (sv [94,61,34]),.c (sv [36,61,34]),.c (sv [42,61,34]),.c (sv [126,61,34])]),
  oV 4 (.mv (.t 9))] [9]
abbrev zJQ:HCode:=oN [oV 5 (.mv (.c (iv 0)))]
abbrev zJR:HCode:=oR [oV 10 (.mv (.t 5)),
  oV 11 (.ints .lss (.t 10) (.c (iv 5)))] [10]
abbrev zJS:HCode:=oR [oV 14 (.fldP (.t 3) 0),
  oV 15 (.ldB (.t 14) 2 43 0 1 false),
  oV 16 (.ints .eql (.t 15) (.c (iv 3))),
  oV 17 (.mv (.t 16)),
  oG 17 true 18 (.mv (.t 0)),
  oG 17 true 19 (.mv (.t 4)),
  oG 17 true 20 (.mv (.t 5)),
  oG 17 true 21 (.idxA 1 (.t 19) (.t 20)),
  oG 17 true 22 (.ldR (.t 21) 1 false),
  ⟨some (17,true),.callg 23 zAo [(.t 18,.i 0 36 1),(.t 22,.v)]⟩,
  oV 24 (.pick (.t 17) (.t 23) (.c (bv false)))] [14,15,16,17,18,19,20,21,22,23]
abbrev zJT:HCode:=oR [oV 25 (.mv (.t 5)),
  oV 26 (.ints .add (.c (iv 4)) (.t 25)),
  oV 27 (.fldP (.t 3) 0),
  ⟨none,.sto (.t 27) 2 43 0 1 (.t 26)⟩] [25,26,27]
abbrev zJU:HCode:=oR [oV 28 (.mv (.t 0)),
  oC 29 zDa [(.t 28,.i 0 36 1)],
  oV 30 (.fldP (.t 3) 2),
  ⟨none,.sto (.t 30) 2 43 2 1 (.t 29)⟩] [28,29,30]
abbrev zJV:HCode:=oR [oV 31 (.mv (.t 0)),
  oC 32 zAo [(.t 31,.i 0 36 1),(.c (sv [34]),.v)]] [31,32]
abbrev zJW:HCode:=oR [oV 12 (.mv (.t 5)),
  oV 13 (.ints .add (.t 12) (.c (iv 1))),
  oV 5 (.mv (.t 13))] [12,13]
abbrev zH2:HCode:=oR [oV 33 (.mv (.t 0)),
  oC 34 zAo [(.t 33,.i 0 36 1),(.c (sv [93]),.v)]] [33,34]
abbrev zH3:HCode:=oR [oV 35 (.ldB (.t 3) 2 43 0 6 true),
  ⟨none,.sto (.t 2) 1 37 0 6 (.t 35)⟩] [35]
abbrev zRX:HCode:=(.seq zJN (.seq zJO (.seq zJP (.seq (.seq zJQ (.block 0 (.loop (.seq (.seq zJR (.cond (.t 11) .skip (.exit 0))) (.seq (.block 1 (.seq zJS (.cond (.t 24) (.seq zJT (.seq zJU zJV)) .skip))) zJW))))) (.seq zH2 (.seq zH3 .ret))))))
abbrev zFs:Env:={ N:=36,Γ:=[(36,1),(37,6),(43,6)],L:=49,nfix:=1 }
abbrev ref_reader_attr_R:List RSrc:=[.cellB 2 1 37 0 6 true]
theorem zJX:zCu Tryz.prog zDu zRX zFs ref_reader_attr_R:=by kernel_rfl
abbrev zJY:HCode:=oN [⟨none,.alloc 4 1 81 [.v (.int .i64 0),.v (mkS []),.v (mkS []),.v (.int .i64 0),.v (.int .i64 0),.nl 2]⟩,
  oV 5 (.mv (.c (bv false)))]
abbrev zJZ:HCode:=oN [⟨none,.alloc 6 2 87 [.v (.int .i64 0),.v (mkS []),.v (mkS []),.v (.int .i64 0),.v (.int .i64 0),.nl 2]⟩]
abbrev zJ0:HCode:=oR [oV 9 (.mv (.t 0)),
  oC 10 zAo [(.t 9,.i 0 80 1),(.c (sv [46]),.v)],
  oV 8 (.mv (.t 10))] [9,10]
abbrev zJ1:HCode:=oR [oV 11 (.mv (.t 0)),
  oC 12 zBq [(.t 11,.i 0 80 1)],
  oV 13 (.bld [.v (.int .i64 0),.v (mkS []),.v (mkS []),.v (.int .i64 0),.v (.int .i64 0),.nl 2] [(0,1,.c (iv 1)),(1,1,.t 12)]),
  ⟨none,.sto (.t 6) 2 87 0 6 (.t 13)⟩] [11,12,13]
abbrev zJ2:HCode:=oR [oV 15 (.mv (.t 0)),
  oC 16 zAo [(.t 15,.i 0 80 1),(.c (sv [35]),.v)],
  oV 14 (.mv (.t 16))] [15,16]
abbrev zJ3:HCode:=oR [oV 17 (.mv (.t 0)),
  oC 18 zBq [(.t 17,.i 0 80 1)],
  oV 19 (.bld [.v (.int .i64 0),.v (mkS []),.v (mkS []),.v (.int .i64 0),.v (.int .i64 0),.nl 2] [(0,1,.c (iv 2)),(1,1,.t 18)]),
  ⟨none,.sto (.t 6) 2 87 0 6 (.t 19)⟩] [17,18,19]
abbrev zJ4:HCode:=oR [oV 21 (.mv (.t 0)),
  oC 22 zAo [(.t 21,.i 0 80 1),(.c (sv [91]),.v)],
  oV 20 (.mv (.t 22))] [21,22]
abbrev zJ5:HCode:=oR [oV 23 (.mv (.t 0)),
  oC 24 zDu [(.t 23,.i 0 80 1)],
  ⟨none,.sto (.t 6) 2 87 0 6 (.t 24)⟩] [23,24]
abbrev zJ6:HCode:=oR [oV 26 (.mv (.t 0)),
  oC 27 zAo [(.t 26,.i 0 80 1),(.c (sv [58,110,116,104,40]),.v)],
  oV 25 (.mv (.t 27))] [26,27]
abbrev zJ7:HCode:=oR [oV 28 (.mv (.t 0)),
  oC 29 zCF [(.t 28,.i 0 80 1)],
  oV 30 (.bld [.v (.int .i64 0),.v (mkS []),.v (mkS []),.v (.int .i64 0),.v (.int .i64 0),.nl 2] [(0,1,.c (iv 9)),(3,2,.t 29)]),
  ⟨none,.sto (.t 6) 2 87 0 6 (.t 30)⟩] [28,29,30]
abbrev zH4:HCode:=oR [oV 31 (.mv (.t 0)),
  oC 32 zAo [(.t 31,.i 0 80 1),(.c (sv [41]),.v)]] [31,32]
abbrev zH5:HCode:=oR [oV 34 (.mv (.t 0)),
  oC 35 zAo [(.t 34,.i 0 80 1),(.c (sv [58,108,97,115,116,40]),.v)],
  oV 33 (.mv (.t 35))] [34,35]
abbrev zH6:HCode:=oR [oV 36 (.mv (.t 0)),
  oC 37 zCF [(.t 36,.i 0 80 1)],
  oV 38 (.bld [.v (.int .i64 0),.v (mkS []),.v (mkS []),.v (.int .i64 0),.v (.int .i64 0),.nl 2] [(0,1,.c (iv 10)),(3,2,.t 37)]),
  ⟨none,.sto (.t 6) 2 87 0 6 (.t 38)⟩] [36,37,38]
abbrev zH7:HCode:=oR [oV 39 (.mv (.t 0)),
  oC 40 zAo [(.t 39,.i 0 80 1),(.c (sv [41]),.v)]] [39,40]
abbrev zH8:HCode:=oR [oV 42 (.mv (.t 0)),
  oC 43 zAo [(.t 42,.i 0 80 1),(.c (sv [58,101,109,112,116,121]),.v)],
  oV 41 (.mv (.t 43))] [42,43]
abbrev zH9:HCode:=oR [oV 44 (.fldP (.t 6) 0),
  ⟨none,.sto (.t 44) 2 87 0 1 (.c (iv 11))⟩] [44]
abbrev zIa:HCode:=oR [oV 46 (.mv (.t 0)),
  oC 47 zAo [(.t 46,.i 0 80 1),(.c (sv [58,114,111,111,116]),.v)],
  oV 45 (.mv (.t 47))] [46,47]
abbrev zIb:HCode:=oR [oV 48 (.fldP (.t 6) 0),
  ⟨none,.sto (.t 48) 2 87 0 1 (.c (iv 12))⟩] [48]
abbrev zIc:HCode:=oR [oV 50 (.mv (.t 0)),
  oC 51 zAo [(.t 50,.i 0 80 1),(.c (sv [58,110,111,116,40]),.v)],
  oV 49 (.mv (.t 51))] [50,51]
abbrev zId:HCode:=oR [oV 52 (.mv (.t 0)),
  oV 53 (.mv (.t 1)),
  oV 54 (.ints .add (.t 53) (.c (iv 1))),
  oC 55 zAU [(.t 52,.i 0 80 1),(.t 54,.v)],
  oV 56 (.bld [.v (.int .i64 0),.v (mkS []),.v (mkS []),.v (.int .i64 0),.v (.int .i64 0),.nl 2] [(0,1,.c (iv 13)),(5,1,.t 55)]),
  ⟨none,.sto (.t 6) 2 87 0 6 (.t 56)⟩] [52,53,54,55,56]
abbrev zIe:HCode:=oR [oV 57 (.mv (.t 0)),
  oC 58 zAo [(.t 57,.i 0 80 1),(.c (sv [41]),.v)]] [57,58]
abbrev zIf:HCode:=oR [oV 60 (.mv (.t 0)),
  oC 61 zAo [(.t 60,.i 0 80 1),(.c (sv [58,105,115,40]),.v)],
  oV 59 (.mv (.t 61))] [60,61]
abbrev zIg:HCode:=oR [oV 62 (.mv (.t 0)),
  oV 63 (.mv (.t 1)),
  oV 64 (.ints .add (.t 63) (.c (iv 1))),
  oC 65 zAU [(.t 62,.i 0 80 1),(.t 64,.v)],
  oV 66 (.bld [.v (.int .i64 0),.v (mkS []),.v (mkS []),.v (.int .i64 0),.v (.int .i64 0),.nl 2] [(0,1,.c (iv 14)),(5,1,.t 65)]),
  ⟨none,.sto (.t 6) 2 87 0 6 (.t 66)⟩] [62,63,64,65,66]
abbrev zIh:HCode:=oR [oV 67 (.mv (.t 0)),
  oC 68 zAo [(.t 67,.i 0 80 1),(.c (sv [41]),.v)]] [67,68]
abbrev zIi:HCode:=oR [oV 70 (.mv (.t 0)),
  oC 71 zAo [(.t 70,.i 0 80 1),(.c (sv [58,104,97,115,40]),.v)],
  oV 69 (.mv (.t 71))] [70,71]
abbrev zIj:HCode:=oR [oV 72 (.mv (.t 0)),
  oV 73 (.mv (.t 1)),
  oV 74 (.ints .add (.t 73) (.c (iv 1))),
  oC 75 zAU [(.t 72,.i 0 80 1),(.t 74,.v)],
  oV 76 (.bld [.v (.int .i64 0),.v (mkS []),.v (mkS []),.v (.int .i64 0),.v (.int .i64 0),.nl 2] [(0,1,.c (iv 15)),(5,1,.t 75)]),
  ⟨none,.sto (.t 6) 2 87 0 6 (.t 76)⟩] [72,73,74,75,76]
abbrev zIk:HCode:=oR [oV 77 (.mv (.t 0)),
  oC 78 zAo [(.t 77,.i 0 80 1),(.c (sv [41]),.v)]] [77,78]
abbrev zIl:HCode:=oR [oV 7 (.ldB (.t 6) 2 87 0 6 true),
  ⟨none,.sto (.t 4) 1 81 0 6 (.t 7)⟩,
  oV 5 (.mv (.c (bv false)))] [7]
abbrev zIm:HCode:=oR [oV 79 (.ldB (.t 6) 2 87 0 6 true),
  ⟨none,.sto (.t 4) 1 81 0 6 (.t 79)⟩,
  oV 5 (.mv (.c (bv true)))] [79]
abbrev zRY:HCode:=(.seq zJY (.seq zJZ (.seq (.block 0 (.seq zJ0 (.cond (.t 8) zJ1 (.seq zJ2 (.cond (.t 14) zJ3 (.seq zJ4 (.cond (.t 20) zJ5 (.seq zJ6 (.cond (.t 25) (.seq zJ7 zH4) (.seq zH5 (.cond (.t 33) (.seq zH6 zH7) (.seq zH8 (.cond (.t 41) zH9 (.seq zIa (.cond (.t 45) zIb (.seq zIc (.cond (.t 49) (.seq zId zIe) (.seq zIf (.cond (.t 59) (.seq zIg zIh) (.seq zIi (.cond (.t 69) (.seq zIj zIk) (.seq zIl .ret)))))))))))))))))))))) (.seq zIm .ret))))
abbrev zFt:Env:={ N:=80,Γ:=[(80,1),(81,6),(87,6)],L:=93,nfix:=1 }
abbrev ref_reader_test_R:List RSrc:=[.cellB 4 1 81 0 6 true,.tmp 5]
theorem zJ8:zCu Tryz.prog zBX zRY zFt ref_reader_test_R:=by kernel_rfl
abbrev zJ9:HCode:=oN [⟨none,.alloc 4 1 33 [.v (mkS []),.nl 6]⟩]
abbrev zKa:HCode:=oR [oV 8 (.mv (.t 0)),
  oC 9 zBq [(.t 8,.i 0 32 1)],
  oV 10 (.bld [.v (mkS []),.nl 6] [(0,1,.t 9)]),
  ⟨none,.alloc 5 2 35 [.v (mkS []),.nl 6]⟩,
  ⟨none,.sto (.t 5) 2 35 0 2 (.t 10)⟩] [8,9,10]
abbrev zKb:HCode:=oR [oV 11 (.mv (.t 0)),
  oC 12 zAo [(.t 11,.i 0 32 1),(.c (sv [42]),.v)]] [11,12]
abbrev zKc:HCode:=oR [oV 13 (.fldP (.t 5) 1),
  oV 14 (.ldB (.t 13) 2 35 1 1 false),
  oV 15 (.len false (.t 14)),
  oV 16 (.ints .leq (.t 15) (.c (iv 6)))] [13,14,15]
abbrev zKd:HCode:=oR [oV 18 (.mv (.t 0)),
  oV 19 (.mv (.t 1)),
  oC 20 zBX [(.t 18,.i 0 32 1),(.t 19,.v)],
  oV 17 (.mv (.t 20)),
  oV 21 (.ext 17 0),
  oV 22 (.ext 17 1),
  ⟨none,.alloc 6 3 37 [.v (.int .i64 0),.v (mkS []),.v (mkS []),.v (.int .i64 0),.v (.int .i64 0),.nl 2]⟩,
  ⟨none,.sto (.t 6) 3 37 0 6 (.t 21)⟩,
  oV 7 (.mv (.t 22))] [17,18,19,20,21,22]
abbrev zKe:HCode:=oR [oV 23 (.mv (.t 7)),
  oV 24 (.not (.t 23))] [23]
abbrev zKf:HCode:=oR [oV 25 (.fldP (.t 5) 1),
  ⟨none,.ldo 26 (.t 25) 2 35 1 zC8 6⟩,
  oV 27 (.ldB (.t 6) 3 37 0 6 true),
  oV 28 (.bslF 6 [.t 27]),
  ⟨none,.app 29 zC8 6 (.t 26) (.t 28)⟩,
  oV 30 (.fldP (.t 5) 1),
  ⟨none,.stw (.t 30) 2 35 1 29⟩] [25,26,27,28,29,30]
abbrev zKg:HCode:=oR [oV 31 (.ldB (.t 5) 2 35 0 2 true),
  ⟨none,.sto (.t 4) 1 33 0 2 (.t 31)⟩] [31]
abbrev zRZ:HCode:=(.seq zJ9 (.seq zKa (.seq zKb (.seq (.block 0 (.loop (.seq (.seq zKc (.cond (.t 16) .skip (.exit 0))) (.block 1 (.seq zKd (.seq (.seq zKe (.cond (.t 24) (.exit 0) .skip)) zKf)))))) (.seq zKg .ret)))))
abbrev zFu:Env:={ N:=32,Γ:=[(32,1),(33,2),(35,2),(37,6)],L:=43,nfix:=1 }
abbrev ref_reader_step_R:List RSrc:=[.cellB 4 1 33 0 2 true]
theorem zKh:zCu Tryz.prog zBr zRZ zFu ref_reader_step_R:=by kernel_rfl
abbrev zKi:HCode:=oN [⟨none,.nlo 4 zBj 2⟩]
abbrev zKj:HCode:=oN [⟨none,.nlo 5 zBj 2⟩]
abbrev zKk:HCode:=oR [oV 10 (.mv (.t 1)),
  oV 11 (.ints .leq (.t 10) (.c (iv 3))),
  oV 6 (.mv (.t 11))] [10,11]
abbrev zKl:HCode:=oR [oV 12 (.mv (.t 6)),
  oV 13 (.mv (.t 12)),
  oG 13 true 14 (.mv (.t 5)),
  oG 13 true 15 (.len false (.t 14)),
  oG 13 true 16 (.ints .leq (.t 15) (.c (iv 5))),
  oV 17 (.pick (.t 13) (.t 16) (.c (bv false)))] [12,13,14,15,16]
abbrev zKm:HCode:=oR [oV 18 (.mv (.t 0)),
  oV 19 (.mv (.t 1)),
  oC 20 zBr [(.t 18,.i 0 63 1),(.t 19,.v)],
  ⟨none,.vbp 21 zC7 2 (.t 20)⟩,
  ⟨none,.vbd 22 [.nl 2,.nl 1] 0 1 (.t 21)⟩,
  ⟨none,.alloc 7 1 64 [.nl 2,.nl 1]⟩,
  ⟨none,.vst (.t 7) 1 64 0 2 22⟩] [18,19,20,21,22]
abbrev zKn:HCode:=oN [oV 8 (.mv (.c (bv true)))]
abbrev zKo:HCode:=oR [oV 23 (.mv (.t 8)),
  oV 24 (.mv (.t 23)),
  oG 24 true 25 (.fldP (.t 7) 0),
  oG 24 true 26 (.ldh (.t 25) 1 64 0),
  oG 24 true 27 (.len false (.t 26)),
  oG 24 true 28 (.ints .leq (.t 27) (.c (iv 5))),
  oV 29 (.pick (.t 24) (.t 28) (.c (bv false)))] [23,24,25,26,27,28]
abbrev zKp:HCode:=oN [oV 9 (.mv (.c (iv 0)))]
abbrev zKq:HCode:=oR [oV 31 (.mv (.t 0)),
  oC 32 zAo [(.t 31,.i 0 63 1),(.c (sv [32,62,32]),.v)],
  oV 30 (.mv (.t 32))] [31,32]
abbrev zKr:HCode:=oN [oV 9 (.mv (.c (iv 2)))]
abbrev zIn:HCode:=oR [oV 34 (.mv (.t 0)),
  oC 35 zAo [(.t 34,.i 0 63 1),(.c (sv [32,43,32]),.v)],
  oV 33 (.mv (.t 35))] [34,35]
abbrev zIo:HCode:=oN [oV 9 (.mv (.c (iv 3)))]
abbrev zIp:HCode:=oR [oV 37 (.mv (.t 0)),
  oC 38 zAo [(.t 37,.i 0 63 1),(.c (sv [32,126,32]),.v)],
  oV 36 (.mv (.t 38))] [37,38]
abbrev zIq:HCode:=oN [oV 9 (.mv (.c (iv 4)))]
abbrev zIr:HCode:=oR [oV 40 (.mv (.t 0)),
  oC 41 zAo [(.t 40,.i 0 63 1),(.c (sv [32]),.v)],
  oV 39 (.mv (.t 41))] [40,41]
abbrev zIs:HCode:=oN [oV 9 (.mv (.c (iv 1)))]
abbrev zIt:HCode:=oN [oV 8 (.mv (.c (bv false)))]
abbrev zIu:HCode:=oR [oV 42 (.fldP (.t 7) 1),
  ⟨none,.ldo 43 (.t 42) 1 64 1 zP7 1⟩,
  oV 44 (.mv (.t 9)),
  oV 45 (.bslF 1 [.t 44]),
  ⟨none,.app 46 zP7 1 (.t 43) (.t 45)⟩,
  oV 47 (.fldP (.t 7) 1),
  ⟨none,.stw (.t 47) 1 64 1 46⟩] [42,43,44,45,46,47]
abbrev zIv:HCode:=oQ [oD 0 false (oV 48 (.fldP (.t 7) 0)),
  oD 1 false ⟨none,.vld 49 (.t 48) 1 64 0 1 false⟩,
  oD 2 false (oV 50 (.mv (.t 0))),
  oD 3 false (oV 51 (.mv (.t 1))),
  oD 4 true (oC 52 zBr [(.t 50,.i 0 63 1),(.t 51,.v)]),
  oD 5 false (oV 53 (.bslF 2 [.t 52])),
  oD 6 false ⟨none,.vap 54 zC7 2 49 (.t 53)⟩,
  oD 7 false (oV 55 (.fldP (.t 7) 0)),
  oD 8 false ⟨none,.vst (.t 55) 1 64 0 1 54⟩] [48,49,50,51,52,53,54,55]
abbrev zIw:HCode:=.regG [.vfr 64 1 64] [⟨none,.mvo 56 5⟩,
  oV 57 (.ldB (.t 7) 1 64 0 2 true),
  oV 58 (.bslF 2 [.t 57]),
  ⟨none,.app 59 zBj 2 (.t 56) (.t 58)⟩,
  ⟨none,.mvo 5 59⟩] [.forget [56,57,58,59]]
abbrev zIx:HCode:=oR [oV 60 (.mv (.t 0)),
  oC 61 zAo [(.t 60,.i 0 63 1),(.c (sv [44,32]),.v)],
  oV 6 (.mv (.t 61))] [60,61]
abbrev zIy:HCode:=oR [⟨none,.mvo 62 5⟩,
  ⟨none,.mvo 4 62⟩] [62]
abbrev zR0:HCode:=(.seq zKi (.seq zKj (.seq (.seq zKk (.block 0 (.loop (.seq (.seq zKl (.cond (.t 17) .skip (.exit 0))) (.block 1 (.seq zKm (.seq (.seq zKn (.block 2 (.loop (.seq (.seq zKo (.cond (.t 29) .skip (.exit 2))) (.block 3 (.seq zKp (.seq (.block 4 (.seq zKq (.cond (.t 30) zKr (.seq zIn (.cond (.t 33) zIo (.seq zIp (.cond (.t 36) zIq (.seq zIr (.cond (.t 39) zIs (.seq zIt (.exit 3))))))))))) (.seq zIu zIv)))))))) (.seq zIw zIx)))))))) (.seq zIy .ret))))
abbrev zFv:Env:={ N:=63,Γ:=[(63,1),(64,2)],L:=66,nfix:=1 }
abbrev ref_reader_list_R:List RSrc:=[.tmp 4]
theorem zKs:zCu Tryz.prog zAU zR0 zFv ref_reader_list_R:=by kernel_rfl
abbrev zR1:HCode:=oN [oV 2 (.mv (.c (.one (.nl 2)))),
  oV 3 (.mv (.c (bv false)))]
abbrev zR2:HCode:=oR [oV 6 (.mv (.t 0)),
  oV 7 (.bld [.v (mkS [])] [(0,1,.t 6)]),
  ⟨none,.box 8 0 21 1 (.t 7)⟩,
  oV 4 (.mv (.t 8))] [6,7,8]
abbrev zR3:HCode:=oR [oV 9 (.mv (.t 4)),
  oC 10 zAU [(.t 9,.i 0 21 1),(.c (iv 1),.v)],
  oV 5 (.mv (.t 10))] [9,10]
abbrev zR4:HCode:=oR [oV 11 (.mv (.t 5)),
  oC 12 zC0 [(.t 11,.v)],
  oV 13 (.ints .neq (.t 12) (.c (iv 0))),
  oV 14 (.mv (.t 13)),
  oG 14 false 15 (.mv (.t 5)),
  ⟨some (14,false),.call (some 16) zA2 [(.t 15,.v)]⟩,
  oG 14 false 17 (.mv (.t 0)),
  oG 14 false 18 (.strs .neq (.t 16) (.t 17)),
  oV 19 (.pick (.t 14) (.c (bv true)) (.t 18))] [11,12,13,14,15,16,17,18]
abbrev zR5:HCode:=oN [oV 2 (.mv (.c (.one (.nl 2)))),
  oV 3 (.mv (.c (bv false)))]
abbrev zR6:HCode:=oR [oV 20 (.mv (.t 5)),
  oV 2 (.mv (.t 20)),
  oV 3 (.mv (.c (bv true)))] [20]
abbrev zZk:HCode:=(.seq zR1 (.seq zR2 (.seq zR3 (.seq (.seq zR4 (.cond (.t 19) (.seq zR5 .ret) .skip)) (.seq zR6 .ret)))))
abbrev zHz:Env:={ N:=21,Γ:=[(21,1)],L:=22,nfix:=0 }
abbrev ref_ListFrom_R:List RSrc:=[.tmp 2,.tmp 3]
theorem zR7:zCu Tryz.prog zEG zZk zHz ref_ListFrom_R:=by kernel_rfl
end Go.Hx
end

section
/-
 The abstract code of functions of the program, printed by gen.py; each stands for the given one. No condition.
-/
namespace Go.Hx
open Go.Proofs
variable [Glob]
abbrev zBZ:Nat:=149
abbrev zF4:Nat:=148
abbrev zC2:Nat:=205
abbrev zF5:Nat:=55
abbrev zDx:Nat:=166
abbrev zCM:Nat:=112
abbrev zCa:Nat:=165
abbrev zB0:Nat:=102
abbrev zW3:HCode:=oN [oV 1 (.boxF (.t 0)),
  ⟨none,.alloc 2 0 85 [.v (.int .i64 0),.v (.int .i64 0),.v (.int .i64 0)]⟩]
abbrev zW4:HCode:=oN [⟨none,.alloc 3 1 88 [.v (.int .i64 0),.v (.int .i64 0),.v (.int .i64 0)]⟩]
abbrev zW5:HCode:=oR [oV 12 (.fldR (.t 1) 0 1),
  oV 13 (.ldR (.t 12) 1 false),
  oV 14 (.len false (.t 13)),
  oV 15 (.mv (.c (iv 0)))] [12]
abbrev zW6:HCode:=oN [oV 16 (.ints .lss (.t 15) (.t 14))]
abbrev zW7:HCode:=oR [oV 17 (.idxA 2 (.t 13) (.t 15)),
  oV 18 (.ldR (.t 17) 2 true),
  ⟨none,.alloc 5 2 91 [.v (mkS []),.nl 6]⟩,
  ⟨none,.sto (.t 5) 2 91 0 2 (.t 18)⟩] [17,18]
abbrev zW8:HCode:=oR [oV 19 (.fldP (.t 5) 0),
  oV 20 (.ldB (.t 19) 2 91 0 1 false),
  oV 21 (.strs .neq (.t 20) (.c (sv [])))] [19,20]
abbrev zW9:HCode:=oR [oV 22 (.fldP (.t 3) 2),
  oV 23 (.ldB (.t 22) 1 88 2 1 false),
  oV 24 (.ints .add (.t 23) (.c (iv 1))),
  oV 25 (.fldP (.t 3) 2),
  ⟨none,.sto (.t 25) 1 88 2 1 (.t 24)⟩] [22,23,24,25]
abbrev zXa:HCode:=oR [oV 26 (.fldP (.t 5) 1),
  oV 27 (.ldB (.t 26) 2 91 1 1 false),
  oV 28 (.len false (.t 27)),
  oV 29 (.mv (.c (iv 0)))] [26]
abbrev zXb:HCode:=oN [oV 30 (.ints .lss (.t 29) (.t 28))]
abbrev zXc:HCode:=oR [oV 31 (.idxA 6 (.t 27) (.t 29)),
  oV 32 (.ldR (.t 31) 6 true),
  ⟨none,.alloc 7 3 93 [.v (.int .i64 0),.v (mkS []),.v (mkS []),.v (.int .i64 0),.v (.int .i64 0),.nl 2]⟩,
  ⟨none,.sto (.t 7) 3 93 0 6 (.t 32)⟩] [31,32]
abbrev zTL:HCode:=oR [oV 33 (.fldP (.t 7) 0),
  oV 34 (.ldB (.t 33) 3 93 0 1 false)] [33]
abbrev zTM:HCode:=oR [oV 40 (.ints .eql (.t 34) (.c (iv 2))),
  oV 39 (.mv (.t 40))] [40]
abbrev zTN:HCode:=oR [oV 41 (.fldP (.t 3) 0),
  oV 42 (.ldB (.t 41) 1 88 0 1 false),
  oV 43 (.ints .add (.t 42) (.c (iv 1))),
  oV 44 (.fldP (.t 3) 0),
  ⟨none,.sto (.t 44) 1 88 0 1 (.t 43)⟩] [41,42,43,44]
abbrev zTO:HCode:=oR [oV 46 (.ints .eql (.t 34) (.c (iv 13))),
  oV 45 (.mv (.t 46))] [46]
abbrev zTP:HCode:=oR [oV 47 (.ints .eql (.t 34) (.c (iv 14))),
  oV 45 (.mv (.t 47))] [47]
abbrev zTQ:HCode:=oR [oV 48 (.ints .eql (.t 34) (.c (iv 15))),
  oV 45 (.mv (.t 48))] [48]
abbrev zTR:HCode:=oN [⟨none,.nlo 8 zB0 3⟩]
abbrev zTS:HCode:=oR [oV 49 (.fldP (.t 7) 5),
  oV 50 (.ldB (.t 49) 3 93 5 1 false),
  oV 51 (.len false (.t 50)),
  oV 52 (.mv (.c (iv 0)))] [49]
abbrev zTT:HCode:=oN [oV 53 (.ints .lss (.t 52) (.t 51))]
abbrev zTU:HCode:=oR [oV 54 (.idxA 2 (.t 50) (.t 52)),
  oV 55 (.ldR (.t 54) 2 true),
  ⟨none,.alloc 10 4 99 [.nl 2,.nl 1]⟩,
  ⟨none,.sto (.t 10) 4 99 0 2 (.t 55)⟩] [54,55]
abbrev zTV:HCode:=oR [⟨none,.mvo 56 8⟩,
  oV 57 (.ldB (.t 10) 4 99 0 2 true),
  oC 58 zCM [(.t 57,.v)],
  oV 59 (.bslF 3 [.t 58]),
  ⟨none,.app 60 zB0 3 (.t 56) (.t 59)⟩,
  ⟨none,.mvo 8 60⟩] [56,57,58,59,60]
abbrev zTW:HCode:=oR [oV 61 (.ints .add (.t 52) (.c (iv 1))),
  oV 52 (.mv (.t 61))] [61]
abbrev zTX:HCode:=oR [oV 62 (.mv (.t 8)),
  oC 63 zCa [(.t 62,.v),(.f zDx,.v)],
  ⟨none,.alloc 11 5 101 [.v (.int .i64 0),.v (.int .i64 0),.v (.int .i64 0)]⟩,
  ⟨none,.sto (.t 11) 5 101 0 3 (.t 63)⟩] [62,63]
abbrev zTY:HCode:=oQ [oD 0 false (oV 64 (.fldP (.t 3) 0)),
  oD 1 false (oV 65 (.ldB (.t 64) 1 88 0 1 false)),
  oD 2 false (oV 66 (.fldP (.t 11) 0)),
  oD 3 false (oV 67 (.ldB (.t 66) 5 101 0 1 false)),
  oD 4 false (oV 68 (.ints .add (.t 65) (.t 67))),
  oD 5 false (oV 69 (.fldP (.t 3) 1)),
  oD 6 false (oV 70 (.ldB (.t 69) 1 88 1 1 false)),
  oD 7 false (oV 71 (.fldP (.t 11) 1)),
  oD 8 false (oV 72 (.ldB (.t 71) 5 101 1 1 false)),
  oD 9 false (oV 73 (.ints .add (.t 70) (.t 72))),
  oD 10 false (oV 74 (.fldP (.t 3) 2)),
  oD 11 false (oV 75 (.ldB (.t 74) 1 88 2 1 false)),
  oD 12 false (oV 76 (.fldP (.t 11) 2)),
  oD 13 false (oV 77 (.ldB (.t 76) 5 101 2 1 false)),
  oD 14 false (oV 78 (.ints .add (.t 75) (.t 77))),
  oD 15 false (oV 79 (.fldP (.t 3) 0)),
  oD 16 false ⟨none,.sto (.t 79) 1 88 0 1 (.t 68)⟩,
  oD 17 false (oV 80 (.fldP (.t 3) 1)),
  oD 18 false ⟨none,.sto (.t 80) 1 88 1 1 (.t 73)⟩,
  oD 19 false (oV 81 (.fldP (.t 3) 2)),
  oD 20 false ⟨none,.sto (.t 81) 1 88 2 1 (.t 78)⟩] [64,65,66,67,68,69,70,71,72,73,74,75,76,77,78,79,80,81]
abbrev zTZ:HCode:=oR [oV 35 (.fldP (.t 3) 1),
  oV 36 (.ldB (.t 35) 1 88 1 1 false),
  oV 37 (.ints .add (.t 36) (.c (iv 1))),
  oV 38 (.fldP (.t 3) 1),
  ⟨none,.sto (.t 38) 1 88 1 1 (.t 37)⟩] [35,36,37,38]
abbrev zT0:HCode:=oR [oV 82 (.ints .add (.t 29) (.c (iv 1))),
  oV 29 (.mv (.t 82))] [82]
abbrev zT1:HCode:=oR [oV 83 (.ints .add (.t 15) (.c (iv 1))),
  oV 15 (.mv (.t 83))] [83]
abbrev zT2:HCode:=oR [oV 84 (.ldB (.t 3) 1 88 0 3 true),
  ⟨none,.sto (.t 2) 0 85 0 3 (.t 84)⟩] [84]
abbrev yC8:HCode:=(.seq zW3 (.seq zW4 (.seq (.seq zW5 (.block 0 (.loop (.seq zW6 (.seq (.cond (.t 16) .skip (.exit 0)) (.seq (.block 1 (.seq zW7 (.seq (.seq zW8 (.cond (.t 21) zW9 .skip)) (.seq zXa (.block 2 (.loop (.seq zXb (.seq (.cond (.t 30) .skip (.exit 2)) (.seq (.block 3 (.seq zXc (.seq zTL (.block 4 (.seq zTM (.cond (.t 39) zTN (.seq (.seq zTO (.cond (.t 45) .skip (.seq zTP (.cond (.t 45) .skip zTQ)))) (.cond (.t 45) (.seq zTR (.seq (.seq zTS (.block 5 (.loop (.seq zTT (.seq (.cond (.t 53) .skip (.exit 5)) (.seq (.block 6 (.seq zTU zTV)) zTW)))))) (.seq zTX zTY))) zTZ)))))))) zT0))))))))) zT1)))))) (.seq zT2 .ret))))
abbrev zMv:Env:={ N:=85,Γ:=[(85,3),(88,3),(91,2),(93,6),(99,2),(101,3)],L:=104,nfix:=0 }
abbrev path_weigh_R:List RSrc:=[.cellB 2 0 85 0 3 true]
theorem zXd:zCu Tryz.prog zCM yC8 zMv path_weigh_R:=by kernel_rfl
abbrev zXe:HCode:=oN [oV 1 (.boxF (.t 0)),
  ⟨none,.alloc 2 0 14 [.v (.int .i64 0),.v (.int .i64 0),.v (.int .i64 0)]⟩,
  oV 3 (.mv (.c (iv 0)))]
abbrev zXf:HCode:=oR [oV 5 (.ldR (.t 1) 2 true),
  oV 6 (.bslF 2 [.t 5]),
  oC 7 zBU [(.t 6,.v)],
  oV 4 (.mv (.t 7))] [5,6,7]
abbrev zXg:HCode:=oR [oV 8 (.mv (.t 4)),
  oV 9 (.ints .neq (.t 8) (.c (iv 0)))] [8]
abbrev zXh:HCode:=oR [oV 10 (.bld [.v (.int .i64 0),.v (.int .i64 0),.v (.int .i64 0)] []),
  oV 11 (.mv (.t 4)),
  ⟨none,.sto (.t 2) 0 14 0 3 (.t 10)⟩,
  oV 3 (.mv (.t 11))] [10,11]
abbrev zXi:HCode:=oR [oV 12 (.ldR (.t 1) 2 true),
  oC 13 zCM [(.t 12,.v)],
  ⟨none,.sto (.t 2) 0 14 0 3 (.t 13)⟩,
  oV 3 (.mv (.c (iv 0)))] [12,13]
abbrev yC9:HCode:=(.seq zXe (.seq (.seq zXf (.seq zXg (.cond (.t 9) (.seq zXh .ret) .skip))) (.seq zXi .ret)))
abbrev zMw:Env:={ N:=14,Γ:=[(14,3)],L:=17,nfix:=0 }
abbrev path_Weigh_R:List RSrc:=[.cellB 2 0 14 0 3 true,.tmp 3]
theorem zXj:zCu Tryz.prog zF5 yC9 zMw path_Weigh_R:=by kernel_rfl
abbrev zSa:HCode:=oN [oV 2 (.boxF (.t 0)),
  oV 3 (.boxF (.t 1)),
  oV 4 (.mv (.c (iv 0)))]
abbrev zSb:HCode:=oQ [oD 0 false (oV 5 (.fldR (.t 2) 0 1)),
  oD 1 false (oV 6 (.ldR (.t 5) 1 false)),
  oD 2 false (oV 7 (.fldR (.t 3) 0 1)),
  oD 3 false (oV 8 (.ldR (.t 7) 1 false)),
  oD 4 false (oC 9 zBZ [(.t 6,.v),(.t 8,.v)]),
  oD 5 false (oV 10 (.fldR (.t 2) 1 1)),
  oD 6 false (oV 11 (.ldR (.t 10) 1 false)),
  oD 7 false (oV 12 (.fldR (.t 3) 1 1)),
  oD 8 false (oV 13 (.ldR (.t 12) 1 false)),
  oD 9 false (oC 14 zBZ [(.t 11,.v),(.t 13,.v)]),
  oD 10 false (oV 15 (.fldR (.t 2) 2 1)),
  oD 11 false (oV 16 (.ldR (.t 15) 1 false)),
  oD 12 false (oV 17 (.fldR (.t 3) 2 1)),
  oD 13 false (oV 18 (.ldR (.t 17) 1 false)),
  oD 14 true (oC 19 zBZ [(.t 16,.v),(.t 18,.v)]),
  oD 15 false (oV 20 (.bslF 1 [.t 9,.t 14,.t 19])),
  oD 16 true (oC 21 zF4 [(.t 20,.v)]),
  oD 17 false (oV 4 (.mv (.t 21)))] [5,6,7,8,9,10,11,12,13,14,15,16,17,18,19,20,21]
abbrev zZp:HCode:=(.seq zSa (.seq zSb .ret))
abbrev zHB:Env:={ N:=22,Γ:=[],L:=22,nfix:=0 }
abbrev path_heavier_R:List RSrc:=[.tmp 4]
theorem zSc:zCu Tryz.prog zDx zZp zHB path_heavier_R:=by kernel_rfl
abbrev zFy:HCode:=oN [⟨none,.alloc 4 0 33 [.v (.int .i64 0),.v (.int .i64 0),.v (.int .i64 0)]⟩]
abbrev zFz:HCode:=oR [oV 7 (.mv (.t 0)),
  oV 8 (.len false (.t 7)),
  oV 9 (.ints .lss (.t 8) (.c (iv 1)))] [7,8]
abbrev zFA:HCode:=oR [oV 10 (.mki zFh (.c (sv [115,108,105,99,101,115,46,77,97,120,70,117,110,99,58,32,101,109,112,116,121,32,108,105,115,116]))),
  ⟨none,.pan (.t 10)⟩] [10]
abbrev zFB:HCode:=oR [oV 11 (.mv (.t 0)),
  oV 12 (.idxA 3 (.t 11) (.c (iv 0))),
  oV 13 (.ldR (.t 12) 3 true),
  ⟨none,.alloc 5 1 36 [.v (.int .i64 0),.v (.int .i64 0),.v (.int .i64 0)]⟩,
  ⟨none,.sto (.t 5) 1 36 0 3 (.t 13)⟩] [11,12,13]
abbrev zFC:HCode:=oN [oV 6 (.mv (.c (iv 1)))]
abbrev zFD:HCode:=oR [oV 14 (.mv (.t 6)),
  oV 15 (.mv (.t 0)),
  oV 16 (.len false (.t 15)),
  oV 17 (.ints .lss (.t 14) (.t 16))] [14,15,16]
abbrev zFE:HCode:=oQ [oD 0 false (oV 20 (.mv (.t 1))),
  oD 1 false (oV 21 (.mv (.t 0))),
  oD 2 false (oV 22 (.mv (.t 6))),
  oD 3 false (oV 23 (.idxA 3 (.t 21) (.t 22))),
  oD 4 false (oV 24 (.ldR (.t 23) 3 true)),
  oD 5 false (oV 25 (.ldB (.t 5) 1 36 0 3 true)),
  oD 6 true ⟨none,.callv (some 26) (.t 20) [(.t 24,.v),(.t 25,.v)]⟩,
  oD 7 false (oV 27 (.ints .gtr (.t 26) (.c (iv 0))))] [20,21,22,23,24,25,26]
abbrev zFF:HCode:=oR [oV 28 (.mv (.t 0)),
  oV 29 (.mv (.t 6)),
  oV 30 (.idxA 3 (.t 28) (.t 29)),
  oV 31 (.ldR (.t 30) 3 true),
  ⟨none,.sto (.t 5) 1 36 0 3 (.t 31)⟩] [28,29,30,31]
abbrev zFG:HCode:=oR [oV 18 (.mv (.t 6)),
  oV 19 (.ints .add (.t 18) (.c (iv 1))),
  oV 6 (.mv (.t 19))] [18,19]
abbrev zFH:HCode:=oR [oV 32 (.ldB (.t 5) 1 36 0 3 true),
  ⟨none,.sto (.t 4) 0 33 0 3 (.t 32)⟩] [32]
abbrev zGR:HCode:=(.seq zFy (.seq (.seq zFz (.cond (.t 9) zFA .skip)) (.seq zFB (.seq (.seq zFC (.block 0 (.loop (.seq (.seq zFD (.cond (.t 17) .skip (.exit 0))) (.seq (.block 1 (.seq zFE (.cond (.t 27) zFF .skip))) zFG))))) (.seq zFH .ret)))))
abbrev zDy:Env:={ N:=33,Γ:=[(33,3),(36,3)],L:=39,nfix:=0 }
abbrev slices_MaxFunc_Weight_R:List RSrc:=[.cellB 4 0 33 0 3 true]
theorem zFI:zCu Tryz.prog zCa zGR zDy slices_MaxFunc_Weight_R:=by kernel_rfl
abbrev zXk:HCode:=oN [oV 2 (.mv (.c (iv 0)))]
abbrev zXl:HCode:=oN [oV 3 (.mv (.c (iv 0)))]
abbrev zXm:HCode:=oN [oV 6 (.mv (.t 0)),
  oV 7 (.len false (.t 6)),
  oV 8 (.mv (.c (iv 0)))]
abbrev zXn:HCode:=oN [oV 9 (.ints .lss (.t 8) (.t 7))]
abbrev zXo:HCode:=oR [oV 10 (.idxA 1 (.t 6) (.t 8)),
  oV 11 (.ldR (.t 10) 1 false),
  oV 5 (.mv (.t 11))] [10,11]
abbrev zXp:HCode:=oR [oV 12 (.mv (.t 5)),
  oV 13 (.mv (.t 3)),
  oV 14 (.ints .neq (.t 12) (.t 13))] [12,13]
abbrev zXq:HCode:=oR [oV 15 (.mv (.t 5)),
  oV 2 (.mv (.t 15))] [15]
abbrev zXr:HCode:=oR [oV 16 (.ints .add (.t 8) (.c (iv 1))),
  oV 8 (.mv (.t 16))] [16]
abbrev zXs:HCode:=oR [oV 17 (.mv (.t 3)),
  oV 2 (.mv (.t 17))] [17]
abbrev yDa:HCode:=(.seq zXk (.seq zXl (.seq (.seq zXm (.block 0 (.loop (.seq zXn (.seq (.cond (.t 9) .skip (.exit 0)) (.seq (.block 1 (.seq zXo (.seq zXp (.cond (.t 14) (.seq zXq .ret) .skip)))) zXr)))))) (.seq zXs .ret))))
abbrev zMx:Env:={ N:=18,Γ:=[],L:=18,nfix:=0 }
abbrev cmp_Or_int_R:List RSrc:=[.tmp 2]
theorem zXt:zCu Tryz.prog zF4 yDa zMx cmp_Or_int_R:=by kernel_rfl
abbrev zKu:HCode:=oN [oV 4 (.mv (.c (iv 0)))]
abbrev zKv:HCode:=oR [oV 7 (.mv (.t 0)),
  oC 8 zC2 [(.t 7,.v)],
  oV 5 (.mv (.t 8))] [7,8]
abbrev zKw:HCode:=oR [oV 9 (.mv (.t 1)),
  oC 10 zC2 [(.t 9,.v)],
  oV 6 (.mv (.t 10))] [9,10]
abbrev zKx:HCode:=oN [oV 11 (.mv (.t 5))]
abbrev zKy:HCode:=oN [oV 12 (.mv (.t 6))]
abbrev zKz:HCode:=oN [oV 4 (.mv (.c (iv 0)))]
abbrev zKA:HCode:=oN [oV 4 (.mv (.c (iv (-1))))]
abbrev zKB:HCode:=oN [oV 13 (.mv (.t 6))]
abbrev zKC:HCode:=oN [oV 4 (.mv (.c (iv 1)))]
abbrev zKD:HCode:=oR [oV 14 (.mv (.t 0)),
  oV 15 (.mv (.t 1)),
  oV 16 (.ints .lss (.t 14) (.t 15))] [14,15]
abbrev zIA:HCode:=oN [oV 4 (.mv (.c (iv (-1))))]
abbrev zIB:HCode:=oR [oV 17 (.mv (.t 0)),
  oV 18 (.mv (.t 1)),
  oV 19 (.ints .gtr (.t 17) (.t 18))] [17,18]
abbrev zIC:HCode:=oN [oV 4 (.mv (.c (iv 1)))]
abbrev zID:HCode:=oN [oV 4 (.mv (.c (iv 0)))]
abbrev zSd:HCode:=(.seq zKu (.seq zKv (.seq zKw (.seq (.seq zKx (.cond (.t 11) (.seq (.seq zKy (.cond (.t 12) (.seq zKz .ret) .skip)) (.seq zKA .ret)) .skip)) (.seq (.seq zKB (.cond (.t 13) (.seq zKC .ret) .skip)) (.seq (.seq zKD (.cond (.t 16) (.seq zIA .ret) .skip)) (.seq (.seq zIB (.cond (.t 19) (.seq zIC .ret) .skip)) (.seq zID .ret))))))))
abbrev zFJ:Env:={ N:=20,Γ:=[],L:=20,nfix:=0 }
abbrev cmp_Compare_int_R:List RSrc:=[.tmp 4]
theorem zKE:zCu Tryz.prog zBZ zSd zFJ cmp_Compare_int_R:=by kernel_rfl
abbrev zO9:HCode:=oN [oV 2 (.mv (.c (bv false)))]
abbrev zPa:HCode:=oR [oV 3 (.mv (.t 0)),
  oV 4 (.mv (.t 0)),
  oV 5 (.ints .neq (.t 3) (.t 4)),
  oV 2 (.mv (.t 5))] [3,4,5]
abbrev zXu:HCode:=(.seq zO9 (.seq zPa .ret))
abbrev zGS:Env:={ N:=6,Γ:=[],L:=6,nfix:=0 }
abbrev cmp_isNaN_int_R:List RSrc:=[.tmp 2]
theorem zPb:zCu Tryz.prog zC2 zXu zGS cmp_isNaN_int_R:=by kernel_rfl
end Go.Hx
end
