/-
  Walks of functions of the program over an abstract layer, and the laws that they use: each contract says what the function computes, for every input that its conditions let by. No other condition.
-/
import Derived.Test.YtjnagiaooecklabGreatDoorG21
set_option linter.all false
section
set_option maxRecDepth 100000
set_option linter.unusedSimpArgs false
namespace Go.Hx
open Go.Proofs Go.RowKit
attribute [local instance] zBi
attribute [local go_sem] zAC zAz zAB zAw ndV zAx zAv OVal.cells List.map_nil List.map_cons zD4 yAZ
attribute [local go_sem] reduceCtorEq Nat.reduceAdd Nat.reduceEqDiff reduceIte Nat.reduceLeDiff Nat.reduceLT Nat.reduceSub
def oRx (rows:List (List PV)):List (List OV):=rows.map fun r=>r.map .p
theorem zGQ (a:List (List PV)) (x:List PV):oRx (a ++ [x])=oRx a ++ [x.map .p]:=by simp [oRx]
theorem zHw (a:List (List PV)):(oRx a).length=a.length:=by simp [oRx]
theorem yEC {b:Option Nat} {e k:Nat} {rows:List (List PV)}:(OV.os b e k (oRx rows)).frz=some (.sl k rows):=yJD (zXV rows)
theorem zDS (l:List St) (t:St):zMn (l ++ [t])=zMn l ++ [stV t]:=by simp [zFX]
theorem zFq (l:List Pt) (t:Pt):zFl (l ++ [t])=zFl l ++ [ptV t]:=by simp [zJw]
theorem zBd (l:List Int) (n:Int):zEK (l ++ [n])=zEK l ++ [[bI n]]:=by simp [zEK]
theorem zRv {E:Env} {base t:Nat} {av:List AV} {F:List Ct} {e k:Nat} {rows:List (List PV)} {cells io:List PV} (h:F.getD t .un = .own e k rows) (hio:ioOf av=some cells) (hc:zAL F base cells.length=some io):yCd E base av [.tmp t] { res:=.own e k rows,io:=io } .ret F:=
 ⟨h,fun cs h=>by rw [hio] at h; injection h with h; subst h; exact hc⟩
theorem zCX {s t:Bys} (h:zAj s t=true):(zAg s t).length+t.length=s.length:=by
 have:=congrArg List.length (zEy h)
 rw [List.length_append] at this
 omega
theorem zY7 {f d:Nat} {s:Bys} {x:St} {r:Bys} (h:zWG f d s=some (x,r)):r.length≤s.length:=by
 have:=congrArg List.length ((zEB f).2.2.2.1 _ _ _ _ h)
 rw [List.length_append] at this
 omega
def zRw:Nat→Bys→Int
 |0,s=>zBL s
 |1,s=>if zAj s [32,43,32] then 3 else if zAj s [32,126,32] then 4 else if zAj s [32] then 1 else 0
 |2,s=>if zAj s [32,126,32] then 4 else if zAj s [32] then 1 else 0
 |3,s=>if zAj s [32] then 1 else 0
 |_,_=>0
set_option maxHeartbeats 16000000 in
theorem yAW (f:Nat) (hS:∀ (g d:Nat) (s:Bys),g<f→d<1000→s.length≤268435456→4 * s.length+3≤g→Contract Tryz.prog zBO [.io [bS s],.val (iv d)] (zBx g d s)) (d:Nat) (s:Bys) (hdd:d≤1000) (hs:s.length≤268435456) (hf:4 * s.length+5≤f+1):Contract Tryz.prog zBu [.io [bS s],.val (iv d)] (zCd (f+1) d s):=by
 have hm0:maxLen=9223372036854775807:=rfl
 refine mkA zNy (base:=50) ⟨Nat.le_of_ble_eq_true rfl,Nat.le_of_ble_eq_true rfl,Nat.le_of_ble_eq_true rfl,⟨rfl,rfl⟩⟩ (fun hfit=>?_) (fun _ _=>rfl)
 unfold F0 zGB
 simp only [yIn,Nat.reduceAdd,Nat.reduceSub]
 try simp only [go_sem]
 repeat with_reducible refine zAc ?_
 refine zAa yF trivial (fun h1=>?_) (fun h1=>?_)
 ·have h1':3<d:=by simp at h1; omega
  have e:zCd (f+1) d s = { res:=.pan xbV }:=by unfold zCd; rw [zXD,if_pos h1']
  rw [e]
  try simp only [go_sem]
  repeat with_reducible refine zAc ?_
  exact ⟨_,rfl,rfl⟩
 ·have h1':¬ 3<d:=by simp at h1; omega
  have hd:d<1000:=by omega
  have hE:zXD (f+1) d s=zRl f d s []:=by rw [zXD,if_neg h1']
  try simp only [go_sem]
  repeat with_reducible refine zAc ?_
  refine zAr (fun x:Nat × List Pt × Bys=>[(50,.pv (.one (bS x.2.2))),(5,.own zBj 2 (zFl x.2.1)),(4,.un),(6,.un),(8,.un),(18,.un),(19,.un),(20,.un),(26,.un),(48,.un),(51,.un),(52,.un)]) (fun x:Nat × List Pt × Bys=>x.1) (fun x:Nat × List Pt × Bys=>4 * x.2.2.length+4≤x.1∧x.1≤f∧x.2.1.length+x.2.2.length≤s.length∧zRl x.1 d x.2.2 x.2.1=zRl f d s []) ((f,[],s)) ?_ ⟨by simp only; omega,Nat.le_refl _,by simp,rfl⟩ ?_
  focus (simp only [go_sem,zAf,zAl,zAs,zAb]; all_goals (repeat' (first | exact trivial | exact zAi yO | exact zAh rfl | exact zAm rfl | exact zAn | exact le_refl _ | refine And.intro ?_ ?_)))
  rintro ⟨g,ac,r⟩ ⟨k1,k2,k3,k4⟩
  simp only at k1 k2 k3 k4
  obtain ⟨g',rfl⟩:∃ g',g=g'+1:=⟨g - 1,by omega⟩
  have hc:=hS g' d r yO hd yO yO
  rw [zRl] at k4
  cases ht:zWG g' d r with
  |none=>
   rw [ht] at k4
   have e2:zBx g' d r = { res:=.pan xbV }:=by unfold zBx; rw [ht]
   have e:zCd (f+1) d s = { res:=.pan xbV }:=by unfold zCd; rw [hE,← k4]
   rw [e2] at hc
   rw [e]
   try simp only [go_sem]
   repeat with_reducible refine zAc ?_
   refine zBS yR hc ?_
   try simp only [go_sem]
   repeat with_reducible refine zAc ?_
   exact ⟨_,rfl,rfl⟩
  |some xr=>
   obtain ⟨x,r1⟩:=xr
   rw [ht] at k4
   simp only at k4
   have e2:zBx g' d r = { res:=.val (.agg (stV x)),io:=[bS r1] }:=by unfold zBx; rw [ht]
   have hr1:=zY7 ht
   rw [e2] at hc
   try simp only [go_sem]
   repeat with_reducible refine zAc ?_
   refine zAd yR (hc) ?_
   try simp only [go_sem,zBh]
   repeat with_reducible refine zAc ?_
   refine zAr (fun y:Nat × List St × List Int × Bys=>[(50,.pv (.one (bS y.2.2.2))),(51,.ov (.one (.os none zC7 2 (oRx (zMn y.2.1))))),(52,.own zP7 1 (zEK y.2.2.1)),(8,.un),(18,.un),(19,.un),(20,.un),(26,.un)]) (fun y:Nat × List St × List Int × Bys=>y.1) (fun y:Nat × List St × List Int × Bys=>4 * y.2.2.2.length+1≤y.1∧y.1≤g'∧(y.2.1.length+y.2.2.2.length≤s.length+1∧y.2.2.1.length+y.2.2.2.length≤s.length∧y.2.2.2.length≤r1.length)∧zRk y.1 d y.2.2.2 y.2.1 y.2.2.1=zRk g' d r1 [x] []) ((g',[x],[],r1)) ?_ ⟨by simp only; omega,Nat.le_refl _,⟨by simp only [List.length_cons,List.length_nil]; omega,by simp only [List.length_nil]; omega,Nat.le_refl _⟩,rfl⟩ ?_
   focus (simp only [go_sem,zAf,zAl,zAs,zAb]; all_goals (repeat' (first | exact trivial | exact zAi yO | exact zAh rfl | exact zAm rfl | exact zAn | exact le_refl _ | refine And.intro ?_ ?_)))
   ·exact zAm (by simp only [zFX,List.map_cons,List.map_nil,oRx,zBh])
   rintro ⟨h,st,lk,q⟩ ⟨l1,l2,⟨l3,l5,l6⟩,l4⟩
   simp only at l1 l2 l3 l4 l5 l6
   obtain ⟨h',rfl⟩:∃ h',h=h'+1:=⟨h - 1,by omega⟩
   rw [zRk] at l4
   try simp only [go_sem]
   repeat with_reducible refine zAc ?_
   refine zAr (fun i:Nat=>[(50,.pv (.one (bS q))),(51,.ov (.one (.os none zC7 2 (oRx (zMn st))))),(52,.own zP7 1 (zEK lk)),(19,.pv (iv i)),(8,.un),(20,.un),(26,.un)]) (fun i:Nat=>4 - i) (fun i:Nat=>i≤4∧zBL q=zRw i q) (0) ?_ ⟨Nat.zero_le _,rfl⟩ ?_
   focus (simp only [go_sem,zAf,zAl,zAs,zAb]; all_goals (repeat' (first | exact trivial | exact zAi yO | exact zAh rfl | exact zAm rfl | exact zAn | exact le_refl _ | refine And.intro ?_ ?_)))
   rintro i ⟨i1,k5⟩
   rcases (by omega:i=0∨i=1∨i=2∨i=3∨i=4) with rfl | rfl | rfl | rfl | rfl
   ·have k5:zBL q=(if zAj q [32,62,32] then 2 else zRw 1 q):=by rw [k5]; rfl
    try simp only [go_sem]
    repeat with_reducible refine zAc ?_
    refine zAa yF trivial (fun g0=>?_) (fun g0=>?_)
    ·try simp only [go_sem]
     repeat with_reducible refine zAc ?_
     refine zAd yR (zJA) ?_
     try simp only [go_sem]
     repeat with_reducible refine zAc ?_
     refine zAd yR (zBP q [32,62,32]) ?_
     try simp only [go_sem]
     repeat with_reducible refine zAc ?_
     cases hg:zAj q [32,62,32] with
     |true=>
      rw [hg] at k5
      have hlk:zBL q=2:=by rw [k5]; rfl
      have hsl:=zCX hg
      simp only [List.length_cons,List.length_nil] at hsl
      rw [hlk] at l4
      rw [if_neg (by decide)] at l4
      have hlt:zGf 2=[32,62,32]:=rfl
      rw [hlt] at l4
      have hc:=hS h' d (zAg q [32,62,32]) yO hd yO yO
      refine zAa yF trivial (fun g1=>?_) (fun g1=>?_)
      ·cases ht:zWG h' d (zAg q [32,62,32]) with
       |none=>
        rw [ht] at l4
        have e2:zBx h' d (zAg q [32,62,32]) = { res:=.pan xbV }:=by unfold zBx; rw [ht]
        have e:zCd (f+1) d s = { res:=.pan xbV }:=by unfold zCd; rw [hE,← k4,← l4]
        rw [e2] at hc
        rw [e]
        try simp only [go_sem]
        repeat with_reducible refine zAc ?_
        refine zBS yR hc ?_
        try simp only [go_sem]
        repeat with_reducible refine zAc ?_
        intro F' hag
        exact ⟨_,rfl,rfl⟩
       |some xr=>
        obtain ⟨x',r'⟩:=xr
        rw [ht] at l4
        simp only at l4
        have e2:zBx h' d (zAg q [32,62,32]) = { res:=.val (.agg (stV x')),io:=[bS r'] }:=by unfold zBx; rw [ht]
        have hr':=zY7 ht
        rw [e2] at hc
        try simp only [go_sem]
        repeat with_reducible refine zAc ?_
        refine zAd yR (hc) ?_
        try simp only [go_sem,zBh,zHw,zBb]
        repeat with_reducible refine zAc ?_
        refine ⟨(h',st ++ [x'],lk ++ [2],r'),by simp only; omega,⟨by simp only; omega,by simp only; omega,by simp only [List.length_append,List.length_cons,List.length_nil]; omega,l4⟩,?_⟩
        simp only [go_sem,zAf,zAl,zAs,zAb]
        all_goals (repeat' (first | exact trivial | exact zAi yO | exact zAh rfl | exact zAm rfl | exact zAn | exact le_refl _ | refine And.intro ?_ ?_))
        all_goals first | exact zAb | exact zAm (by simp only [zDS,zGQ,zBd,zBh]; rfl) | exact zB7 (by rw [zBd]) | rfl
      ·cases g1
     |false=>
      rw [hg] at k5
      have e0:zAg q [32,62,32]=q:=by unfold zAg; rw [hg]; rfl
      refine zAa yF trivial (fun g1=>?_) (fun g1=>?_)
      ·cases g1
      ·try simp only [go_sem]
       repeat with_reducible refine zAc ?_
       rw [e0]
       refine ⟨1,by omega,⟨by omega,by rw [k5]; rfl⟩,?_⟩
       simp only [go_sem,zAf,zAl,zAs,zAb]
       all_goals (repeat' (first | exact trivial | exact zAi yO | exact zAh rfl | exact zAm rfl | exact zAn | exact le_refl _ | refine And.intro ?_ ?_))
       all_goals first | exact zAb | rfl
    ·simp at g0
   ·have k5:zBL q=(if zAj q [32,43,32] then 3 else zRw 2 q):=by rw [k5]; rfl
    try simp only [go_sem]
    repeat with_reducible refine zAc ?_
    refine zAa yF trivial (fun g0=>?_) (fun g0=>?_)
    ·try simp only [go_sem]
     repeat with_reducible refine zAc ?_
     refine zAd yR (zJA) ?_
     try simp only [go_sem]
     repeat with_reducible refine zAc ?_
     refine zAd yR (zBP q [32,43,32]) ?_
     try simp only [go_sem]
     repeat with_reducible refine zAc ?_
     cases hg:zAj q [32,43,32] with
     |true=>
      rw [hg] at k5
      have hlk:zBL q=3:=by rw [k5]; rfl
      have hsl:=zCX hg
      simp only [List.length_cons,List.length_nil] at hsl
      rw [hlk] at l4
      rw [if_neg (by decide)] at l4
      have hlt:zGf 3=[32,43,32]:=rfl
      rw [hlt] at l4
      have hc:=hS h' d (zAg q [32,43,32]) yO hd yO yO
      refine zAa yF trivial (fun g1=>?_) (fun g1=>?_)
      ·cases ht:zWG h' d (zAg q [32,43,32]) with
       |none=>
        rw [ht] at l4
        have e2:zBx h' d (zAg q [32,43,32]) = { res:=.pan xbV }:=by unfold zBx; rw [ht]
        have e:zCd (f+1) d s = { res:=.pan xbV }:=by unfold zCd; rw [hE,← k4,← l4]
        rw [e2] at hc
        rw [e]
        try simp only [go_sem]
        repeat with_reducible refine zAc ?_
        refine zBS yR hc ?_
        try simp only [go_sem]
        repeat with_reducible refine zAc ?_
        intro F' hag
        exact ⟨_,rfl,rfl⟩
       |some xr=>
        obtain ⟨x',r'⟩:=xr
        rw [ht] at l4
        simp only at l4
        have e2:zBx h' d (zAg q [32,43,32]) = { res:=.val (.agg (stV x')),io:=[bS r'] }:=by unfold zBx; rw [ht]
        have hr':=zY7 ht
        rw [e2] at hc
        try simp only [go_sem]
        repeat with_reducible refine zAc ?_
        refine zAd yR (hc) ?_
        try simp only [go_sem,zBh,zHw,zBb]
        repeat with_reducible refine zAc ?_
        refine ⟨(h',st ++ [x'],lk ++ [3],r'),by simp only; omega,⟨by simp only; omega,by simp only; omega,by simp only [List.length_append,List.length_cons,List.length_nil]; omega,l4⟩,?_⟩
        simp only [go_sem,zAf,zAl,zAs,zAb]
        all_goals (repeat' (first | exact trivial | exact zAi yO | exact zAh rfl | exact zAm rfl | exact zAn | exact le_refl _ | refine And.intro ?_ ?_))
        all_goals first | exact zAb | exact zAm (by simp only [zDS,zGQ,zBd,zBh]; rfl) | exact zB7 (by rw [zBd]) | rfl
      ·cases g1
     |false=>
      rw [hg] at k5
      have e0:zAg q [32,43,32]=q:=by unfold zAg; rw [hg]; rfl
      refine zAa yF trivial (fun g1=>?_) (fun g1=>?_)
      ·cases g1
      ·try simp only [go_sem]
       repeat with_reducible refine zAc ?_
       rw [e0]
       refine ⟨2,by omega,⟨by omega,by rw [k5]; rfl⟩,?_⟩
       simp only [go_sem,zAf,zAl,zAs,zAb]
       all_goals (repeat' (first | exact trivial | exact zAi yO | exact zAh rfl | exact zAm rfl | exact zAn | exact le_refl _ | refine And.intro ?_ ?_))
       all_goals first | exact zAb | rfl
    ·simp at g0
   ·have k5:zBL q=(if zAj q [32,126,32] then 4 else zRw 3 q):=by rw [k5]; rfl
    try simp only [go_sem]
    repeat with_reducible refine zAc ?_
    refine zAa yF trivial (fun g0=>?_) (fun g0=>?_)
    ·try simp only [go_sem]
     repeat with_reducible refine zAc ?_
     refine zAd yR (zJA) ?_
     try simp only [go_sem]
     repeat with_reducible refine zAc ?_
     refine zAd yR (zBP q [32,126,32]) ?_
     try simp only [go_sem]
     repeat with_reducible refine zAc ?_
     cases hg:zAj q [32,126,32] with
     |true=>
      rw [hg] at k5
      have hlk:zBL q=4:=by rw [k5]; rfl
      have hsl:=zCX hg
      simp only [List.length_cons,List.length_nil] at hsl
      rw [hlk] at l4
      rw [if_neg (by decide)] at l4
      have hlt:zGf 4=[32,126,32]:=rfl
      rw [hlt] at l4
      have hc:=hS h' d (zAg q [32,126,32]) yO hd yO yO
      refine zAa yF trivial (fun g1=>?_) (fun g1=>?_)
      ·cases ht:zWG h' d (zAg q [32,126,32]) with
       |none=>
        rw [ht] at l4
        have e2:zBx h' d (zAg q [32,126,32]) = { res:=.pan xbV }:=by unfold zBx; rw [ht]
        have e:zCd (f+1) d s = { res:=.pan xbV }:=by unfold zCd; rw [hE,← k4,← l4]
        rw [e2] at hc
        rw [e]
        try simp only [go_sem]
        repeat with_reducible refine zAc ?_
        refine zBS yR hc ?_
        try simp only [go_sem]
        repeat with_reducible refine zAc ?_
        intro F' hag
        exact ⟨_,rfl,rfl⟩
       |some xr=>
        obtain ⟨x',r'⟩:=xr
        rw [ht] at l4
        simp only at l4
        have e2:zBx h' d (zAg q [32,126,32]) = { res:=.val (.agg (stV x')),io:=[bS r'] }:=by unfold zBx; rw [ht]
        have hr':=zY7 ht
        rw [e2] at hc
        try simp only [go_sem]
        repeat with_reducible refine zAc ?_
        refine zAd yR (hc) ?_
        try simp only [go_sem,zBh,zHw,zBb]
        repeat with_reducible refine zAc ?_
        refine ⟨(h',st ++ [x'],lk ++ [4],r'),by simp only; omega,⟨by simp only; omega,by simp only; omega,by simp only [List.length_append,List.length_cons,List.length_nil]; omega,l4⟩,?_⟩
        simp only [go_sem,zAf,zAl,zAs,zAb]
        all_goals (repeat' (first | exact trivial | exact zAi yO | exact zAh rfl | exact zAm rfl | exact zAn | exact le_refl _ | refine And.intro ?_ ?_))
        all_goals first | exact zAb | exact zAm (by simp only [zDS,zGQ,zBd,zBh]; rfl) | exact zB7 (by rw [zBd]) | rfl
      ·cases g1
     |false=>
      rw [hg] at k5
      have e0:zAg q [32,126,32]=q:=by unfold zAg; rw [hg]; rfl
      refine zAa yF trivial (fun g1=>?_) (fun g1=>?_)
      ·cases g1
      ·try simp only [go_sem]
       repeat with_reducible refine zAc ?_
       rw [e0]
       refine ⟨3,by omega,⟨by omega,by rw [k5]; rfl⟩,?_⟩
       simp only [go_sem,zAf,zAl,zAs,zAb]
       all_goals (repeat' (first | exact trivial | exact zAi yO | exact zAh rfl | exact zAm rfl | exact zAn | exact le_refl _ | refine And.intro ?_ ?_))
       all_goals first | exact zAb | rfl
    ·simp at g0
   ·have k5:zBL q=(if zAj q [32] then 1 else zRw 4 q):=by rw [k5]; rfl
    try simp only [go_sem]
    repeat with_reducible refine zAc ?_
    refine zAa yF trivial (fun g0=>?_) (fun g0=>?_)
    ·try simp only [go_sem]
     repeat with_reducible refine zAc ?_
     refine zAd yR (zJA) ?_
     try simp only [go_sem]
     repeat with_reducible refine zAc ?_
     refine zAd yR (zBP q [32]) ?_
     try simp only [go_sem]
     repeat with_reducible refine zAc ?_
     cases hg:zAj q [32] with
     |true=>
      rw [hg] at k5
      have hlk:zBL q=1:=by rw [k5]; rfl
      have hsl:=zCX hg
      simp only [List.length_cons,List.length_nil] at hsl
      rw [hlk] at l4
      rw [if_neg (by decide)] at l4
      have hlt:zGf 1=[32]:=rfl
      rw [hlt] at l4
      have hc:=hS h' d (zAg q [32]) yO hd yO yO
      refine zAa yF trivial (fun g1=>?_) (fun g1=>?_)
      ·cases ht:zWG h' d (zAg q [32]) with
       |none=>
        rw [ht] at l4
        have e2:zBx h' d (zAg q [32]) = { res:=.pan xbV }:=by unfold zBx; rw [ht]
        have e:zCd (f+1) d s = { res:=.pan xbV }:=by unfold zCd; rw [hE,← k4,← l4]
        rw [e2] at hc
        rw [e]
        try simp only [go_sem]
        repeat with_reducible refine zAc ?_
        refine zBS yR hc ?_
        try simp only [go_sem]
        repeat with_reducible refine zAc ?_
        intro F' hag
        exact ⟨_,rfl,rfl⟩
       |some xr=>
        obtain ⟨x',r'⟩:=xr
        rw [ht] at l4
        simp only at l4
        have e2:zBx h' d (zAg q [32]) = { res:=.val (.agg (stV x')),io:=[bS r'] }:=by unfold zBx; rw [ht]
        have hr':=zY7 ht
        rw [e2] at hc
        try simp only [go_sem]
        repeat with_reducible refine zAc ?_
        refine zAd yR (hc) ?_
        try simp only [go_sem,zBh,zHw,zBb]
        repeat with_reducible refine zAc ?_
        refine ⟨(h',st ++ [x'],lk ++ [1],r'),by simp only; omega,⟨by simp only; omega,by simp only; omega,by simp only [List.length_append,List.length_cons,List.length_nil]; omega,l4⟩,?_⟩
        simp only [go_sem,zAf,zAl,zAs,zAb]
        all_goals (repeat' (first | exact trivial | exact zAi yO | exact zAh rfl | exact zAm rfl | exact zAn | exact le_refl _ | refine And.intro ?_ ?_))
        all_goals first | exact zAb | exact zAm (by simp only [zDS,zGQ,zBd,zBh]; rfl) | exact zB7 (by rw [zBd]) | rfl
      ·cases g1
     |false=>
      rw [hg] at k5
      have e0:zAg q [32]=q:=by unfold zAg; rw [hg]; rfl
      refine zAa yF trivial (fun g1=>?_) (fun g1=>?_)
      ·cases g1
      ·try simp only [go_sem]
       repeat with_reducible refine zAc ?_
       rw [e0]
       refine ⟨4,by omega,⟨by omega,by rw [k5]; rfl⟩,?_⟩
       simp only [go_sem,zAf,zAl,zAs,zAb]
       all_goals (repeat' (first | exact trivial | exact zAi yO | exact zAh rfl | exact zAm rfl | exact zAn | exact le_refl _ | refine And.intro ?_ ?_))
       all_goals first | exact zAb | rfl
    ·simp at g0
   ·have hlk:zBL q=0:=by rw [k5]; rfl
    rw [if_pos hlk] at l4
    rw [← l4] at k4
    simp only at k4
    try simp only [go_sem]
    repeat with_reducible refine zAc ?_
    refine zAa yF trivial (fun g0=>?_) (fun g0=>?_)
    ·simp at g0
    ·try simp only [go_sem,yEC,zBW]
     repeat with_reducible refine zAc ?_
     refine zAd yR (zBP q [44,32]) ?_
     try simp only [go_sem]
     repeat with_reducible refine zAc ?_
     cases hgc:zAj q [44,32] with
     |true=>
      have hsl:=zCX hgc
      simp only [List.length_cons,List.length_nil] at hsl
      rw [hgc,if_pos rfl] at k4
      refine zAa yF trivial (fun g2=>?_) (fun g2=>?_)
      ·cases g2
      ·try simp only [go_sem]
       repeat with_reducible refine zAc ?_
       refine ⟨(g',ac ++ [.mk st lk],zAg q [44,32]),by simp only; omega,⟨by simp only; omega,by simp only; omega,by simp only [List.length_append,List.length_cons,List.length_nil]; omega,k4⟩,?_⟩
       simp only [go_sem,zAf,zAl,zAs,zAb]
       all_goals (repeat' (first | exact trivial | exact zAi yO | exact zAh rfl | exact zAm rfl | exact zAn | exact le_refl _ | refine And.intro ?_ ?_))
       all_goals first | exact zAb | exact zB7 (by rw [zFq,zBB]; rfl) | rfl
     |false=>
      have e0:zAg q [44,32]=q:=by unfold zAg; rw [hgc]; rfl
      rw [hgc,if_neg (by simp)] at k4
      have e:zCd (f+1) d s = { res:=.own zBj 2 (zFl (ac ++ [.mk st lk])),io:=[bS q] }:=by unfold zCd; rw [hE,← k4]
      rw [e,e0]
      refine zAa yF trivial (fun g2=>?_) (fun g2=>?_)
      ·try simp only [go_sem]
       repeat with_reducible refine zAc ?_
       exact zRv (by rw [zFq,zBB]; rfl) rfl rfl
      ·cases g2
end Go.Hx
end

section
set_option maxRecDepth 100000
set_option linter.unusedSimpArgs false
namespace Go.Hx
open Go.Proofs Go.RowKit
attribute [local instance] zBi
attribute [local go_sem] zAC zAz zAB zAw ndV zAx zAv
theorem zJD:∀ f g:Nat,g≤f →
  (∀ (d:Nat) (s:Bys),d≤1000→s.length≤268435456→4 * s.length+5≤g→Contract Tryz.prog zBu [.io [bS s],.val (iv d)] (zCd g d s)) ∧
  (∀ (d:Nat) (s:Bys),d<1000→s.length≤268435456→4 * s.length+3≤g→Contract Tryz.prog zBO [.io [bS s],.val (iv d)] (zBx g d s)) ∧
  (∀ (d:Nat) (s:Bys),d<1000→s.length≤268435456→4 * s.length+1≤g→Contract Tryz.prog zCh [.io [bS s],.val (iv d)] (zAY g d s))
 |0,g,hg=>⟨fun d s _ _ h=>by omega,fun d s _ _ h=>by omega,fun d s _ _ h=>by omega⟩
 |f+1,g,hg=>by
  by_cases hgf:g≤f
  ·exact zJD f g hgf
  ·have:g=f+1:=by omega
   subst this
   exact ⟨fun d s h1 h2 h3=>yAW f (fun g' d' s' h4=>(zJD f g' yO).2.1 d' s') d s h1 h2 h3,
    fun d s h1 h2 h3=>yAV f (fun g' d' s' h4=>(zJD f g' yO).2.2 d' s') d s h1 h2 h3,
    fun d s h1 h2 h3=>yAU f (fun d' s'=>(zJD f f (Nat.le_refl _)).1 d' s') d s h1 h2 h3⟩
theorem yC4 (s:Bys) (hs:s.length≤268435456):Contract Tryz.prog zBu [.io [bS s],.val (iv 1)] (zCd (4 * s.length+16) 1 s):=
 (zJD _ _ (Nat.le_refl _)).1 1 s (by decide) hs yO
end Go.Hx
end

section
/-
 Paths' weights. Plain Lean. No condition.
-/
set_option maxRecDepth 100000
set_option linter.unusedSimpArgs false
namespace Go.Hx
variable [Glob]
abbrev Wt:=Nat × Nat × Nat
def zSk (a b:Wt):Wt:=(a.1+b.1,a.2.1+b.2.1,a.2.2+b.2.2)
def hvy (a b:Wt):Bool:=if a.1≠b.1 then decide (b.1<a.1) else if a.2.1≠b.2.1 then decide (b.2.1<a.2.1) else decide (b.2.2<a.2.2)
def zCY (b:Wt):List Wt→Wt
 |[]=>b
 |x :: r=>zCY (if hvy x b then x else b) r
def zZw (l:List Wt):Wt:=zCY (0,0,0) l
mutual
def wgT:Ts→Wt
 |.mk k _ _ _ _ l=>if k=2 then (1,0,0) else if k<13 then (0,1,0) else zZw (zB9 l)
def zFw:List Ts→Wt
 |[]=>(0,0,0)
 |t :: r=>zSk (wgT t) (zFw r)
def wgS:St→Wt
 |.mk tag l=>zSk (0,0,if tag=[] then 0 else 1) (zFw l)
def zE0:List St→Wt
 |[]=>(0,0,0)
 |x :: r=>zSk (wgS x) (zE0 r)
def wgP:Pt→Wt
 |.mk st _=>zE0 st
def zB9:List Pt→List Wt
 |[]=>[]
 |p :: r=>wgP p :: zB9 r
end
theorem zHA (t:Ts):wgT t=if t.kind=2 then (1,0,0) else if t.kind<13 then (0,1,0) else zZw (zB9 t.list):=by cases t; rw [wgT]; rfl
theorem yJZ (x:St):wgS x=zSk (0,0,if x.tag=[] then 0 else 1) (zFw x.tests):=by cases x; rw [wgS]; rfl
theorem yGH (p:Pt):wgP p=zE0 p.steps:=by cases p; rw [wgP]; rfl
theorem zCt:∀ l:List Pt,zB9 l=l.map wgP
 |[]=>by rw [zB9]; rfl
 |p :: r=>by rw [zB9,zCt r]; rfl
theorem zZn (a:Wt):zSk a (0,0,0)=a:=rfl
theorem zZo (a:Wt):zSk (0,0,0) a=a:=by simp [zSk]
theorem zUy (a b c:Wt):zSk (zSk a b) c=zSk a (zSk b c):=by simp [zSk,Nat.add_assoc]
theorem yBV (a b:List Ts):zFw (a ++ b)=zSk (zFw a) (zFw b):=by
 induction a with
 |nil=>rw [List.nil_append,zFw,zZo]
 |cons x r ih=>rw [List.cons_append,zFw,zFw,ih,zUy]
theorem yBW (a b:List St):zE0 (a ++ b)=zSk (zE0 a) (zE0 b):=by
 induction a with
 |nil=>rw [List.nil_append,zE0,zZo]
 |cons x r ih=>rw [List.cons_append,zE0,zE0,ih,zUy]
theorem zW2 {α:Type} (l:List α) (i:Nat) (d:α) (h:i<l.length):l.take (i+1)=l.take i ++ [l.getD i d]:=by
 rw [List.take_add_one,List.getElem?_eq_getElem h]
 simp [List.getD_eq_getElem?_getD,h]
theorem yEH (l:List Ts) (m:Nat) (h:m<l.length):zFw (l.take (m+1))=zSk (zFw (l.take m)) (wgT (l.getD m default)):=by
 rw [zW2 l m default h,yBV,zFw,zFw,zZn]
theorem yEI (l:List St) (m:Nat) (h:m<l.length):zE0 (l.take (m+1))=zSk (zE0 (l.take m)) (wgS (l.getD m default)):=by
 rw [zW2 l m default h,yBW,zE0,zE0,zZn]
def wle (a:Wt) (n:Nat):Prop:=a.1≤n∧a.2.1≤n∧a.2.2≤n
theorem wle.mono {a:Wt} {n m:Nat} (h:wle a n) (hm:n≤m):wle a m:=⟨Nat.le_trans h.1 hm,Nat.le_trans h.2.1 hm,Nat.le_trans h.2.2 hm⟩
theorem wle.add {a b:Wt} {n m:Nat} (h:wle a n) (h':wle b m):wle (zSk a b) (n+m):=⟨Nat.add_le_add h.1 h'.1,Nat.add_le_add h.2.1 h'.2.1,Nat.add_le_add h.2.2 h'.2.2⟩
theorem wle.left {a b:Wt} {n:Nat} (h:wle (zSk a b) n):wle a n:=⟨Nat.le_trans (Nat.le_add_right _ _) h.1,Nat.le_trans (Nat.le_add_right _ _) h.2.1,Nat.le_trans (Nat.le_add_right _ _) h.2.2⟩
theorem yBX {n:Nat}:∀ (l:List Wt) (b:Wt),wle b n→(∀ x ∈ l,wle x n)→wle (zCY b l) n
 |[],b,hb,_=>hb
 |x :: r,b,hb,h=>by
  rw [zCY]
  refine yBX r _ ?_ (fun y hy=>h y (List.mem_cons_of_mem _ hy))
  split
  ·exact h x List.mem_cons_self
  ·exact hb
theorem yF6 (x:Wt):(if hvy x (0,0,0) then x else (0,0,0))=x:=by
 obtain ⟨a,b,c⟩:=x
 unfold hvy
 by_cases h1:a=0
 ·by_cases h2:b=0
  ·by_cases h3:c=0
   ·subst h1; subst h2; subst h3; rfl
   ·subst h1; subst h2
    have:0<c:=by omega
    simp [this]
  ·subst h1
   have:0<b:=by omega
   simp [h2,this]
 ·have:0<a:=by omega
  simp [h1,this]
theorem zFx (x:Wt) (r:List Wt):zZw (x :: r)=zCY x r:=by rw [zZw,zCY,yF6]
theorem zUz:∀ (l:List Wt) (b x:Wt),zCY b (l ++ [x])=if hvy x (zCY b l) then x else zCY b l
 |[],b,x=>by rw [List.nil_append,zCY,zCY,zCY]
 |y :: r,b,x=>by rw [List.cons_append,zCY,zUz r,zCY]
theorem yF7 (t:Ts):1≤(zSj t).length:=by
 obtain ⟨k,n,v,a,b,l⟩:=t
 rw [zDt]
 have ho:1≤(zBG k).length:=by
  unfold zBG
  repeat' split
  all_goals simp
 repeat' split
 all_goals (simp only [List.length_cons,List.length_append,List.length_nil]; omega)
mutual
theorem wlT:∀ t:Ts,wle (wgT t) (zSj t).length
 |.mk k n v a b l=>by
  have hp:=yF7 (.mk k n v a b l)
  rw [wgT]
  split
  ·exact ⟨hp,Nat.zero_le _,Nat.zero_le _⟩
  ·split
   ·exact ⟨Nat.zero_le _,hp,Nat.zero_le _⟩
   ·rename_i h2 h13
    have hl:=yLz l true
    rw [zDt,if_neg yO,if_neg yO,if_neg yO,if_neg yO,if_neg yO,if_neg yO,if_neg yO]
    refine yBX _ _ ⟨Nat.zero_le _,Nat.zero_le _,Nat.zero_le _⟩ fun x hx=>(hl x hx).mono ?_
    simp only [List.length_append]
    omega
theorem yLy:∀ l:List Ts,wle (zFw l) (zA8 l).length
 |[]=>by rw [zFw]; exact ⟨Nat.zero_le _,Nat.zero_le _,Nat.zero_le _⟩
 |t :: r=>by
  rw [zFw,zA8,List.length_append]
  exact (wlT t).add (yLy r)
theorem wlS:∀ x:St,wle (wgS x) (zMr x).length
 |.mk tag l=>by
  rw [wgS,zMr,List.length_append]
  refine wle.add ⟨Nat.zero_le _,Nat.zero_le _,?_⟩ (yLy l)
  by_cases h:tag=[]
  ·simp [h]
  ·have:0<tag.length:=List.length_pos_iff.2 h
   simp only [if_neg h]
   omega
theorem yLj:∀ (l:List St) (lk:List Int) (b:Bool),wle (zE0 l) (zAX l lk b).length
 |[],lk,b=>by rw [zE0]; exact ⟨Nat.zero_le _,Nat.zero_le _,Nat.zero_le _⟩
 |x :: r,lk,true=>by
  rw [zE0,zAX,List.length_append]
  exact (wlS x).add (yLj r lk false)
 |x :: r,lk,false=>by
  rw [zE0,zAX,List.length_append,List.length_append]
  exact ((wlS x).add (yLj r lk.tail false)).mono yO
theorem wlP:∀ p:Pt,wle (wgP p) (zKG p).length
 |.mk st lk=>by
  rw [wgP,zKG]
  exact yLj st lk true
theorem yLz:∀ (l:List Pt) (b:Bool),∀ x ∈ zB9 l,wle x (zAH l b).length
 |[],b=>by rw [zB9]; intro x hx; cases hx
 |p :: r,b=>by
  rw [zB9]
  intro x hx
  rw [zAH,List.length_append,List.length_append]
  rcases List.mem_cons.1 hx with rfl | hx
  ·exact (wlP p).mono yO
  ·exact (yLz r false x hx).mono yO
end
def wV (w:Wt):List PV:=[bI w.1,bI w.2.1,bI w.2.2]
def wsV (l:List Wt):List (List PV):=l.map wV
theorem yEJ (l:List Wt):(wsV l).length=l.length:=by simp [wsV]
theorem yIe (l:List Wt) (i:Nat) (h:i<l.length):(wsV l).getD i []=wV (l.getD i (0,0,0)):=by simp [wsV,h]
theorem zL1 (a b:List Wt):wsV (a ++ b)=wsV a ++ wsV b:=by simp [wsV]
end Go.Hx
end
