/-
  Walks of functions of the program over an abstract layer, and the laws that they use: each contract says what the function computes, for every input that its conditions let by. No other condition.
-/
import Derived.Test.YtjnagiaooecklabGreatDoorG11
import Derived.Test.YtjnagiaooecklabGreatDoorG14
import Derived.Test.YtjnagiaooecklabGreatDoorProg
import Derived.Test.YtjnagiaooecklabGreatDoorG12
set_option linter.all false
section
set_option maxRecDepth 100000
namespace Go.Hx
open Go.Proofs
variable [Glob]
attribute [local go_sem] zAh zAj zAg zAd ndV zAm
attribute [local go_sem] reduceCtorEq Nat.reduceAdd Nat.reduceEqDiff reduceIte Nat.reduceLeDiff Nat.reduceLT Nat.reduceSub
theorem zO9 {d:List Nd} {i:Nat}:zDI d (i+1)=(zDI d i&&yCI d i):=zDH
theorem zGU (d:List Nd):Contract Tryz.prog zDe [.val (zB6 d)] {res:=.val (iv (zAl d))}:=by
 unfold zB6
 refine mkA zUS (base:=0) (fo rfl) (fun hfit=>?_)
 unfold F0 zLz
 refine goU ?_
 try simp (maxSteps:=2000000) only [go_sem,zAh]
 repeat with_reducible refine zAt ?_
 refine zAe (by repeat' constructor) (zBC _ _ _) ?_
 refine goW ?_
 refine zAa (by rfl) trivial (fun h=>?_) (fun h=>?_)
 ·refine goW ?_
  refine zAb rfl trivial (.inl ?_)
  congr 3
  have h2:¬ (1≤d.length∧d.length≤64):=by simp at h;omega
  simp [zAl,h2]
 have hr:1≤d.length∧d.length≤64:=by simp at h;omega
 obtain ⟨hr1,hr2⟩:=hr
 refine goW ?_
 refine zAc (fun i:Nat=>[(3,.pv (iv i)),(4,.un),(5,.un),(15,.un),(37,.un),(47,.un),(63,.un)]) (fun i:Nat=>d.length-i) (fun i:Nat=>i≤d.length∧zDI d i=true) (0) ?_ ⟨Nat.zero_le _,rfl⟩ ?_
 focus (exact leA)
 intro i ⟨hi,hok⟩
 try simp (maxSteps:=2000000) only [go_sem,zAh]
 repeat with_reducible refine zAt ?_
 refine zAa (by rfl) trivial (fun h2=>?_) (fun h2=>?_)
 ·have hlt:i < d.length:=by simpa using h2
  try simp (maxSteps:=2000000) only [go_sem,zAh,zBv _ _ hlt]
  repeat with_reducible refine zAt ?_
  refine zAe (by repeat' constructor) (zZA _) ?_
  try simp (maxSteps:=2000000) only [go_sem,zAh,zBv _ _ hlt,ndV]
  repeat with_reducible refine zAt ?_
  refine zAa (by rfl) trivial (fun h3=>?_) (fun h3=>?_)
  ·refine goW ?_
   refine zAb rfl trivial (.inl ?_)
   congr 3
   have:zDI d d.length=false:=by
    cases hn:zDI d d.length with
    |false=>rfl
    |true=>
     exfalso
     have h4:=zBi hn hlt
     simp only [yCI,yNt,zAZ,Bool.and_eq_true] at h4
     rw [h4.1] at h3
     by_cases h5:i=0
     ·subst h5;simp at h3 h4;omega
     ·simp at h3;omega
   simp [zAl,hr1,hr2,this]
  have hn:zBo (d.getD i default)=true:=by
   cases hn:zBo (d.getD i default) with
   |true=>rfl
   |false=>rw [hn] at h3;simp at h3
  rw [hn] at h3
  have h4:i=0→zAZ d i=-1:=by
   intro h5;subst h5;simpa [zAZ] using h3
  have hup:=zB3 hok
  refine goW ?_
  refine zAc (fun x:Int×Bool=>[(4,.pv (bv x.2)),(5,.pv (iv x.1)),(47,.un)]) (fun x:Int×Bool=>(x.1+1).toNat) (fun x:Int×Bool=>-1≤x.1∧x.1 < i∧(x.2=true→yNt d i=true)∧(x.2=false→yNt d i=(zBN d (x.1+1).toNat x.1).contains (zAZ d i))) (((i:Int)-1,(i:Int)==0)) ?_ ⟨by show -1≤(i:Int)-1;omega,by show (i:Int)-1 < i;omega,fun h=>by simp at h;subst h;simp [yNt,h4],fun h=>by simp at h;simp [yNt,h]⟩ ?_
  focus (exact leA)
  intro ⟨k,fine⟩ ⟨hk1,hk2,hk3,hk4⟩
  simp only at hk1 hk2 hk3 hk4
  refine goW ?_
  refine zAa (by rfl) trivial (fun h5=>?_) (fun h5=>?_)
  ·have hk5:0≤k∧fine=false:=by simp at h5;exact h5
   obtain ⟨hk5,rfl⟩:=hk5
   have hkn:k.toNat < d.length:=by omega
   try simp (maxSteps:=2000000) only [go_sem,zBv _ _ hlt,zBv _ _ hkn]
   repeat with_reducible refine zAt ?_
   have h6:=hup k.toNat (by omega)
   refine ⟨(zAZ d k.toNat,k==zAZ d i),?_,⟨h6.1,?_,?_,?_⟩,?_⟩
   ·simp only;omega
   ·simp only;omega
   ·simp only
    intro h7
    have h8:k=zAZ d i:=by simpa using h7
    rw [hk4 rfl,show (k+1).toNat=k.toNat+1 by omega,zBN,if_neg (by omega),h8]
    simp
   ·simp only
    intro h7
    have h8:¬ k=zAZ d i:=by simpa using h7
    rw [hk4 rfl,show (k+1).toNat=k.toNat+1 by omega,zBN,if_neg (by omega),List.contains_cons]
    rw [zHf k.toNat (zAZ d k.toNat+1).toNat _ (fun j hj=>(hup j (by omega)).2) (by omega) (by omega)]
    simp [Ne.symm h8]
   ·exact leA
  ·refine goW ?_
   refine zAa (by rfl) trivial (fun h6=>?_) (fun h6=>?_)
   ·refine goW ?_
    refine zAb rfl trivial (.inl ?_)
    congr 3
    have hf:fine=false:=by simpa using h6
    subst hf
    have hk:k=-1:=by simp at h5;omega
    subst hk
    have:zDI d d.length=false:=by
     cases hn:zDI d d.length with
     |false=>rfl
     |true=>
      exfalso
      have h7:=zBi hn hlt
      simp only [yCI,Bool.and_eq_true] at h7
      rw [hk4 rfl] at h7
      simp [zBN] at h7
    simp [zAl,hr1,hr2,this]
   ·have hf:fine=true:=by simpa using h6
    subst hf
    refine goW ?_
    refine ⟨i+1,by omega,⟨hlt,?_⟩,?_⟩
    ·rw [zO9,hok,yCI,hn,hk3 rfl];rfl
    ·exact leA
 ·refine goW ?_
  refine zAb rfl trivial (.inl ?_)
  congr 3
  have:i=d.length:=by simp at h2;omega
  subst this
  simp [zAl,hr1,hr2,hok]
end Go.Hx
end

section
set_option maxRecDepth 100000
namespace Go.Hx
open Go.Proofs
variable [Glob]
attribute [local go_sem] zAh zAj zAg zAd ndV zAm
attribute [local go_sem] reduceCtorEq Nat.reduceAdd Nat.reduceEqDiff reduceIte Nat.reduceLeDiff Nat.reduceLT Nat.reduceSub
def zD9 (d:List Nd) (k:Int):Int:=if zAl d=0 then (if 0≤k∧k≤(d.length:Int)-1 then 0 else 5) else zAl d
def zA6 (d:List Nd) (n:Int) (k:Nat):List Int:=((List.range k).filter fun i=>decide (zAZ d i=n)).map Int.ofNat
def zBr (d:List Nd) (n:Int):List Int:=zA6 d n d.length
theorem zDk {d:List Nd} {n:Int} {k:Nat}:zA6 d n (k+1)=if zAZ d k=n then zA6 d n k++[(k:Int)] else zA6 d n k:=by
 unfold zA6
 rw [List.range_succ,List.filter_append,List.map_append]
 by_cases h:zAZ d k=n<;>simp [List.filter,h]
theorem zHN {d:List Nd} {n:Int} (k:Nat):(zA6 d n k).length≤k:=by
 unfold zA6
 rw [List.length_map]
 exact Nat.le_trans (List.length_filter_le _ _) (by simp)
theorem zGA (d:List Nd) (n:Int) (hd:d.length≤64):Contract Tryz.prog zDt [.val (zB6 d),.val (iv n)] {res:=.own zAz 1 (zAM (zBr d n))}:=by
 unfold zB6
 refine mkA yC7 (base:=0) (fo rfl) (fun hfit=>?_)
 unfold F0 zQo
 refine goU ?_
 have hm:=zC2 (k:=5) (hfit.1.1)
 rw [zAh] at hm
 refine zAc (fun i:Nat=>[(5,.own zAz 1 (zAM (zA6 d n i))),(6,.pv (iv i)),(11,.un),(21,.un)]) (fun i:Nat=>d.length-i) (fun i:Nat=>i≤d.length) (0) ?_ (Nat.zero_le _) ?_
 focus (exact leA)
 intro i hi
 refine goW ?_
 have hu:=zHN (d:=d) (n:=n) i
 refine zAa (by rfl) trivial (fun h=>?_) (fun h=>?_)
 ·have hlt:i < d.length:=by simpa using h
  try simp (maxSteps:=2000000) only [go_sem,zBv _ _ hlt]
  repeat with_reducible refine zAt ?_
  refine zAa (by rfl) trivial (fun h2=>?_) (fun h2=>?_)
  ·refine goW ?_
   refine ⟨i+1,by omega,hlt,?_⟩
   simp (maxSteps:=2000000) only [go_sem,zAu,zAE,zA9,zAv]
   all_goals (repeat' (first|exact trivial|exact zAI (by omega)|exact zAB rfl|exact zAU rfl|exact zAW|exact le_refl _|refine And.intro ?_ ?_))
   refine zBk ?_
   have h3:zAZ d i=n:=by simpa [zAZ] using h2
   simp [zDk,h3,zAM]
  ·refine goW ?_
   refine ⟨i+1,by omega,hlt,?_⟩
   simp (maxSteps:=2000000) only [go_sem,zAu,zAE,zA9,zAv]
   all_goals (repeat' (first|exact trivial|exact zAI (by omega)|exact zAB rfl|exact zAU rfl|exact zAW|exact le_refl _|refine And.intro ?_ ?_))
   refine zBk ?_
   have h3:¬ zAZ d i=n:=by simpa [zAZ] using h2
   simp [zDk,h3,zAM]
 ·refine goW ?_
  have:i=d.length:=by simp at h;omega
  subst this
  exact zDb rfl
end Go.Hx
end

section
set_option maxRecDepth 100000
namespace Go.Hx
open Go.Proofs
variable [Glob]
attribute [local go_sem] reduceCtorEq Nat.reduceAdd Nat.reduceEqDiff reduceIte Nat.reduceLeDiff Nat.reduceLT Nat.reduceSub
inductive Tr where
 |mk (x:Nd) (k:List Tr)
instance:Inhabited Tr:=⟨.mk default []⟩
attribute [local go_sem] zAh zAj zAg zAd ndV zAm List.take_zero List.map_nil
mutual
def trV:Tr→List PV
 |.mk x k=>[bI x.up,bS x.tag,bS x.id,.sl 1 (yCG x.cls),.sl 2 (yCH x.att),.sl 6 (zZO k)]
def zZO:List Tr→List (List PV)
 |[]=>[]
 |t::r=>trV t::zZO r
end
theorem zTq:∀ l:List Tr,zZO l=l.map trV
 |[]=>rfl
 |t::r=>by simp [zZO,zTq r]
theorem zWv (t:Tr):(trV t).length=6:=by cases t;rfl
attribute [local go_sem] zWv
theorem zNJ (t:Tr):(trV t).map PV.norm=trV t:=by cases t;rfl
attribute [local go_sem] zNJ
theorem zNK:zZO []=[]:=rfl
attribute [local go_sem] zNK
theorem zGB (l:List Tr):(zZO l).length=l.length:=by simp [zTq]
attribute [local go_sem] zGB
theorem yE9 (l:List Tr) (i:Nat) (h:i < l.length):(zZO l).getD i []=trV (l.getD i default):=by simp [zTq,h]
theorem zNL (l r:List Tr):zZO (l++r)=zZO l++zZO r:=by simp [zTq]
def zCw (d:List Nd):Nat→Nat→Tr
 |0,n=>.mk (d.getD n default) []
 |f+1,n=>.mk (d.getD n default) ((zBr d n).map fun k=>zCw d f k.toNat)
theorem zPa {d:List Nd} (hd:zDI d d.length=true) {n:Nat} {i:Nat} (h:i < (zBr d n).length):∃ m:Nat,(zBr d n).getD i 0=m∧m < d.length∧n < m:=by
 have h1:(zBr d n).getD i 0∈zBr d n:=by simp [h]
 unfold zBr zA6 at h1
 obtain ⟨m,h2,h3⟩:=List.mem_map.1 h1
 rw [List.mem_filter] at h2
 have h4:m < d.length:=by simpa using h2.1
 have h5:zAZ d m=n:=by simpa using h2.2
 have:=(zB3 hd m h4).2
 exact ⟨m,h3.symm,h4,by omega⟩
theorem zCY {d:List Nd} (hd:zDI d d.length=true) {n:Nat} (h:n < d.length):zBo (d.getD n default)=true:=by
 have:=zBi hd h
 simp only [yCI,Bool.and_eq_true] at this
 exact this.1
theorem zBD {x:Nd} (h:zBo x=true):x.cls.length≤6∧x.att.length≤4:=by
 simp only [zBo,Bool.and_eq_true,decide_eq_true_eq] at h
 exact ⟨h.1.1.1.2,h.1.1.2⟩
theorem zEu {α β:Type} {f:α→β} {l:List α} {i:Nat} (d:α) (h:i < l.length):(l.take (i+1)).map f=(l.take i).map f++[f (l.getD i d)]:=by
 rw [List.take_succ_eq_append_getElem h,List.map_append];simp [h]
theorem zQE (d:List Nd) (hd:zDI d d.length=true) (hl:d.length≤64):∀ (f n:Nat),n < d.length→d.length-n≤f→Contract Tryz.prog zB9 [.val (zB6 d),.val (iv n)] {res:=.val (.agg (trV (zCw d f n)))}
 |0,n,h1,h2=>by omega
 |f+1,n,h1,h2=>by
  have ih:=zQE d hd hl f
  unfold zB6 at ih ⊢
  simp only [zCw,trV]
  refine mkA yDg (base:=0) (fo rfl) (fun hfit=>?_)
  unfold F0 zQp
  refine goU ?_
  try simp (maxSteps:=2000000) only [go_sem,zBv _ _ h1]
  repeat with_reducible refine zAt ?_
  have hfn:=zBD (zCY hd h1)
  refine zAe (by repeat' constructor) (zI4 _ (by omega) (by omega)) ?_
  try simp (maxSteps:=2000000) only [go_sem,zBv _ _ h1]
  repeat with_reducible refine zAt ?_
  refine zA3 (by repeat' constructor) (zGA _ _ hl) ?_
  refine goW ?_
  refine zAc (fun i:Nat=>[(7,.pv (iv i)),(21,.un),(47,.own zAq 6 (zZO (((zBr d n).take i).map fun k=>zCw d f k.toNat)))]) (fun i:Nat=>(zBr d n).length-i) (fun i:Nat=>i≤(zBr d n).length) (0) ?_ (Nat.zero_le _) ?_
  focus (exact leA)
  intro i hi
  have hkl:(zBr d n).length≤d.length:=zHN _
  have htl:(zZO (((zBr d n).take i).map fun k=>zCw d f k.toNat)).length=i:=by simp [zGB];omega
  refine goW ?_
  refine zAa (by rfl) trivial (fun h=>?_) (fun h=>?_)
  ·have hlt:i < (zBr d n).length:=by simpa using h
   obtain ⟨m,hm1,hm2,hm3⟩:=zPa hd hlt
   try simp (maxSteps:=2000000) only [go_sem,zDc _ _ hlt,hm1]
   repeat with_reducible refine zAt ?_
   refine zAe (by repeat' constructor) (ih m hm2 (by omega)) ?_
   try simp (maxSteps:=2000000) only [go_sem,htl]
   repeat with_reducible refine zAt ?_
   refine ⟨i+1,by omega,hlt,?_⟩
   simp (maxSteps:=2000000) only [go_sem,zAu,zAE,zA9,zAv]
   all_goals (repeat' (first|exact trivial|exact zAI (by omega)|exact zAB rfl|exact zAU rfl|exact zAW|exact le_refl _|refine And.intro ?_ ?_))
   refine zBk ?_
   rw [zEu 0 hlt,zNL,hm1]
   rfl
  ·refine goW ?_
   refine zCH rfl rfl ?_
   have:i=(zBr d n).length:=by simp at h;omega
   rw [this,List.take_length]
   rfl
mutual
def yBI:Tr→List Nd→Int→List Nd
 |.mk x ks,l,up=>zDz ks (l++[{x with up:=up}]) l.length
def zDz:List Tr→List Nd→Int→List Nd
 |[],l,_=>l
 |t::r,l,n=>zDz r (yBI t l n) n
end
mutual
def szT:Tr→Nat
 |.mk _ ks=>zQF ks+1
def zQF:List Tr→Nat
 |[]=>0
 |t::r=>szT t+zQF r
end
mutual
theorem yMn:∀ (t:Tr) (l:List Nd) (n:Int),(yBI t l n).length=l.length+szT t
 |.mk x ks,l,n=>by simp only [yBI,szT,zWw ks,List.length_append,List.length_cons,List.length_nil];omega
theorem zWw:∀ (t:List Tr) (l:List Nd) (n:Int),(zDz t l n).length=l.length+zQF t
 |[],l,n=>by simp [zDz,zQF]
 |t::r,l,n=>by simp only [zDz,zQF,zWw r,yMn t];omega
end
theorem yHU:∀ (a b:List Tr) (l:List Nd) (n:Int),zDz (a++b) l n=zDz b (zDz a l n) n
 |[],b,l,n=>rfl
 |t::a,b,l,n=>by simp only [List.cons_append,zDz,yHU a]
theorem zI6 {α:Type} {l:List α} {i:Nat} (d:α) (h:i < l.length):l.take (i+1)=l.take i++[l.getD i d]:=by
 rw [List.take_succ_eq_append_getElem h];simp [h]
theorem zTr:∀ {l:List Tr} {i:Nat},i < l.length→zQF (l.take i)+szT (l.getD i default)≤zQF l
 |t::r,0,_=>by simp [zQF]
 |t::r,i+1,h=>by
  have:=zTr (l:=r) (i:=i) (by simpa using h)
  simp only [List.take_succ_cons,zQF,List.getD_cons_succ]
  omega
theorem zNM (a b:List Nd):zDW (a++b)=zDW a++zDW b:=by simp [zDW]
theorem yHV:∀ (N:Nat) (t:Tr) (l:List Nd) (up:Int),szT t≤N→l.length+szT t≤1000000→Contract Tryz.prog zLb [.own zAC 5 (zDW l),.val (.agg (trV t)),.val (iv up)] {res:=.own zAC 5 (zDW (yBI t l up))}
 |0,.mk x ks,l,up,h1,_=>by simp [szT] at h1
 |N+1,.mk x ks,l,up,h1,h2=>by
  have ih:=yHV N
  simp only [szT] at h1 h2
  simp only [yBI,trV]
  refine mkA yNH (base:=0) (fo rfl) (fun hfit=>?_)
  unfold F0 yG2
  refine goU ?_
  have hm:=zC2 (k:=6) hfit.2.1.2.2.2.2.2.1
  rw [zGB] at hm
  refine zAc (fun i:Nat=>[(0,.own zAC 5 (zDW (zDz (ks.take i) (l++[{x with up:=up}]) l.length))),(8,.pv (iv i)),(23,.un)]) (fun i:Nat=>ks.length-i) (fun i:Nat=>i≤ks.length) (0) ?_ (Nat.zero_le _) ?_
  focus (simp (maxSteps:=2000000) only [go_sem,zAu,zAE,zA9,zAv];all_goals (repeat' (first|exact trivial|exact zAI (by omega)|exact zAB rfl|exact zAU rfl|exact zAW|exact le_refl _|refine And.intro ?_ ?_)))
  ·simp only [zDz,zNM]
   exact zAU rfl
  intro i hi
  refine goW ?_
  refine zAa (by rfl) trivial (fun h=>?_) (fun h=>?_)
  ·have hlt:i < ks.length:=by simpa using h
   try simp (maxSteps:=2000000) only [go_sem,yE9 _ _ hlt]
   repeat with_reducible refine zAt ?_
   have hsz:=zTr hlt
   have hln:=zWw (ks.take i) (l++[{x with up:=up}]) l.length
   simp only [List.length_append,List.length_cons,List.length_nil] at hln
   refine zA3 (by repeat' constructor) (Contract.av (ih (ks.getD i default) (zDz (ks.take i) (l++[{x with up:=up}]) l.length) l.length (by omega) (by omega)) (by first|rfl|(simp (maxSteps:=2000000) only [go_sem];done)|(simp (maxSteps:=2000000) only [go_sem];rfl))) ?_
   refine goW ?_
   refine ⟨i+1,by omega,hlt,?_⟩
   simp (maxSteps:=2000000) only [go_sem,zAu,zAE,zA9,zAv]
   all_goals (repeat' (first|exact trivial|exact zAI (by omega)|exact zAB rfl|exact zAU rfl|exact zAW|exact le_refl _|refine And.intro ?_ ?_))
   refine zBk ?_
   rw [zI6 default hlt,yHU]
   rfl
  ·refine goW ?_
   have:i=ks.length:=by simp at h;omega
   rw [this,List.take_length]
   exact zDb rfl
end Go.Hx
end

section
set_option maxRecDepth 100000
namespace Go.Hx
open Go.Proofs
variable [Glob]
attribute [local go_sem] zAh zAj zAg zAd ndV zAm zGB zNK zWv zNJ List.take_zero List.map_nil
attribute [local go_sem] reduceCtorEq Nat.reduceAdd Nat.reduceEqDiff reduceIte Nat.reduceLeDiff Nat.reduceLT Nat.reduceSub
def zEv (d:List Nd):Nat→Nat→Tr
 |0,n=>.mk (d.getD n default) []
 |f+1,n=>.mk {d.getD n default with up:=n} ((zBr d n).map fun k=>zEv d f k.toNat)
theorem zQG (d:List Nd) (hd:zDI d d.length=true) (hl:d.length≤64):∀ (f n:Nat),n < d.length→d.length-n≤f→Contract Tryz.prog zFx [.val (zB6 d),.val (iv n)] {res:=.val (.agg (trV (zEv d f n)))}
 |0,n,h1,h2=>by omega
 |f+1,n,h1,h2=>by
  have ih:=zQG d hd hl f
  unfold zB6 at ih ⊢
  simp only [zEv,trV]
  refine mkA yDr (base:=0) (fo rfl) (fun hfit=>?_)
  unfold F0 zQq
  refine goU ?_
  refine zAe (by repeat' constructor) (Contract.av (zQE d hd hl (f+1) n h1 h2) (by first|rfl|(simp (maxSteps:=2000000) only [go_sem,zCw,trV];done)|(simp (maxSteps:=2000000) only [go_sem,zCw,trV];rfl))) ?_
  try simp (maxSteps:=2000000) only [go_sem,zCw,trV]
  repeat with_reducible refine zAt ?_
  refine zA3 (by repeat' constructor) (zGA _ _ hl) ?_
  refine goW ?_
  refine zAc (fun i:Nat=>[(7,.pv (iv i)),(21,.un),(47,.own zAq 6 (zZO (((zBr d n).take i).map fun k=>zEv d f k.toNat)))]) (fun i:Nat=>(zBr d n).length-i) (fun i:Nat=>i≤(zBr d n).length) (0) ?_ (Nat.zero_le _) ?_
  focus (exact leA)
  intro i hi
  have hkl:(zBr d n).length≤d.length:=zHN _
  have htl:(zZO (((zBr d n).take i).map fun k=>zEv d f k.toNat)).length=i:=by simp [zGB];omega
  refine goW ?_
  refine zAa (by rfl) trivial (fun h=>?_) (fun h=>?_)
  ·have hlt:i < (zBr d n).length:=by simpa using h
   obtain ⟨m,hm1,hm2,hm3⟩:=zPa hd hlt
   try simp (maxSteps:=2000000) only [go_sem,zDc _ _ hlt,hm1]
   repeat with_reducible refine zAt ?_
   refine zAe (by repeat' constructor) (ih m hm2 (by omega)) ?_
   try simp (maxSteps:=2000000) only [go_sem,htl]
   repeat with_reducible refine zAt ?_
   refine ⟨i+1,by omega,hlt,?_⟩
   simp (maxSteps:=2000000) only [go_sem,zAu,zAE,zA9,zAv]
   all_goals (repeat' (first|exact trivial|exact zAI (by omega)|exact zAB rfl|exact zAU rfl|exact zAW|exact le_refl _|refine And.intro ?_ ?_))
   refine zBk ?_
   rw [zEu 0 hlt,zNL,hm1]
   rfl
  ·refine goW ?_
   refine zCH rfl rfl ?_
   have:i=(zBr d n).length:=by simp at h;omega
   rw [this,List.take_length]
   rfl
theorem zQH (d:List Nd) (hl:d.length≤64) (hn:∀ i,i < d.length→(d.getD i default).cls.length≤64∧(d.getD i default).att.length≤64):Contract Tryz.prog zFw [.val (zB6 d)] {res:=.val (zB6 d)}:=by
 unfold zB6
 refine mkA yDz (base:=0) (fo rfl) (fun hfit=>?_)
 unfold F0 zQr
 refine goU ?_
 refine zAc (fun i:Nat=>[(4,.pv (iv i)),(9,.un),(25,.own zAC 5 (zDW (d.take i)))]) (fun i:Nat=>d.length-i) (fun i:Nat=>i≤d.length) (0) ?_ (Nat.zero_le _) ?_
 focus (exact leA)
 intro i hi
 have htl:(zDW (d.take i)).length=i:=by simp [zAh];omega
 refine goW ?_
 refine zAa (by rfl) trivial (fun h=>?_) (fun h=>?_)
 ·have hlt:i < d.length:=by simpa using h
  try simp (maxSteps:=2000000) only [go_sem,zBv _ _ hlt]
  repeat with_reducible refine zAt ?_
  refine zAe (by repeat' constructor) (zI4 _ (hn i hlt).1 (hn i hlt).2) ?_
  try simp (maxSteps:=2000000) only [go_sem,htl]
  repeat with_reducible refine zAt ?_
  refine ⟨i+1,by omega,hlt,?_⟩
  simp (maxSteps:=2000000) only [go_sem,zAu,zAE,zA9,zAv]
  all_goals (repeat' (first|exact trivial|exact zAI (by omega)|exact zAB rfl|exact zAU rfl|exact zAW|exact le_refl _|refine And.intro ?_ ?_))
  refine zBk ?_
  rw [zI6 default hlt,zNM]
  rfl
 ·refine goW ?_
  refine zCH rfl rfl ?_
  have:i=d.length:=by simp at h;omega
  rw [this,List.take_length]
  rfl
theorem yKs:∀ ks:List Tr,ks.length≤zQF ks
 |[]=>Nat.le_refl _
 |.mk x k::r=>by have:=yKs r;simp [zQF,szT];omega
end Go.Hx
end

section
set_option maxRecDepth 100000
namespace Go.Hx
open Go.Proofs
variable [Glob]
attribute [local go_sem] zAh zAj zAg zAd ndV zAm zGB zNK zWv zNJ List.take_zero List.map_nil
theorem zNN {d:List Nd} {n:Int} (h:zD9 d n=0):zAl d=0∧0≤n∧n < d.length:=by
 unfold zD9 at h
 split at h
 ·rename_i h1
  split at h
  ·exact ⟨h1,by omega,by omega⟩
  ·omega
 ·contradiction
theorem zA0 {d:List Nd} (h:zAl d=0):1≤d.length∧d.length≤64∧zDI d d.length=true:=by
 unfold zAl at h
 split at h
 ·rename_i h1
  split at h
  ·rename_i h2
   exact ⟨h1.1,h1.2,h2⟩
  ·omega
 ·omega
end Go.Hx
end

section
namespace Go.Hx
open Go.Proofs
variable [Glob]
abbrev zPd:=79
abbrev zFj:=34
abbrev zE0:=86
abbrev yKw:=oN [vp 4 zAC 5]
abbrev yKx:=oN [vp 5 zAC 5]
abbrev yKy:=oN [oA 8 0,oI 9 8,oE 10 0]
abbrev yKz:=oN [oM 11 10 9]
abbrev yKA:=oR [oK 12 5 8 10,oT 13 12 5,qP 7 0 33 0 1 2,oL 7 0 33 0 5 13] [12,13]
abbrev yKB:=oQ [oH 0 14 1,oW 1 15 7 0,qB 2 16 15 0 33 0 1,jL 3 17 14 16,oW 4 18 7 3,qB 5 19 18 0 33 3 1,qY 6 20 zBe 19,oW 7 21 7 4,qB 8 22 21 0 33 4 1,qY 9 23 zBt 22,oW 10 24 7 0,qE 11 24 0 33 0 1 17,oW 12 25 7 3,qE 13 25 0 33 3 1 20,oW 14 26 7 4,qE 15 26 0 33 4 1 23] [14,15,16,17,18,19,20,21,22,23,24,25,26]
abbrev yKC:=oR [qd 27 5,oq 28 7 0 33 0 5,qK 29 5 28,qx 30 zAC 5 27 29,qd 5 30] [27,28,29,30]
abbrev yKD:=oR [oF 31 10 1,oA 10 31] [31]
abbrev yKE:=oR [qd 32 5,qd 4 32] [32]
abbrev yRO:=jX yKw yKx (jU yKy (jS 0 yKz 11 1 (jV yKA yKB yKC) yKD)) yKE .ret
abbrev yBO:=jZ 33 [(33,5)] 38 0
abbrev xBf:List RSrc:=[.tmp 4]
theorem yKF:j0 zCU yRO yBO xBf:=by kernel_rfl
abbrev yKG:=oN [o4 3 0,vz 5 0 44 5 2,qn 6 1 49 5,oE 7 0]
abbrev yKH:=oR [oT 10 3 1,oA 11 1,qC 12 zGv 10 11,oA 8 12] [10,11,12]
abbrev yKI:=oR [oA 13 8,om 14 13 0] [13]
abbrev yKJ:=oR [qX 15 5,oA 16 8,oL 6 1 49 0 1 15,oA 7 16] [15,16]
abbrev yKK:=oR [oq 17 5 0 44 0 5,oo 18 zIX 17,qJ 19 18] [17,18]
abbrev yKL:=oR [qX 20 5,oL 6 1 49 0 1 20,oE 7 1] [20]
abbrev yKM:HCode:=.reg [oJ 21 3 0 1,oB 22 21 1,oC 23 zCU [(.t 22,.v),(.f zGt,.v)],qd 9 23] false [.forget [21,22,23],.pin 9 0 0 []]
abbrev yKN:=oQ [oH 0 24 9,oH 1 25 1,o3 2 26 5 24 25,oW 3 27 26 0,oD 4 false ⟨none,.vlp 28 (.t 27) 9 0 0 [] 1 false⟩,oW 5 29 5 3,qB 6 30 29 0 44 3 1,qY 7 31 zBe 30,oW 8 32 5 4,qB 9 33 32 0 44 4 1,qY 10 34 zBt 33,oW 11 35 5 0,qE 12 35 0 44 0 1 28,oW 13 36 5 3,qE 14 36 0 44 3 1 31,oW 15 37 5 4,qE 16 37 0 44 4 1 34] [24,25,26,27,28,29,30,31,32,33,34,35,36,37]
abbrev yKO:HCode:=.reg [oA 38 9,oA 39 1,oq 40 5 0 44 0 5,oK 41 5 38 39,⟨none,.vse (.t 41) 9 0 0 [] 5 (.t 40)⟩] false [.forget [38,39,40,41],.vfr 9 0 0]
abbrev yKP:=oR [oA 42 9,oV 43 (.bld [.nl 5] [(0,1,.t 42)]),oL 6 1 49 0 1 43,oE 7 0] [42,43]
abbrev yRP:=jX yKG (jV yKH yKI (jP 14 yKJ)) (jU yKK (jP 19 yKL)) yKM (jW yKN yKO yKP .ret)
abbrev yBP:=jZ 44 [(44,5),(49,1)] 50 0
abbrev xBg:List RSrc:=[.cellB 6 1 49 0 1 true,.tmp 7]
theorem yKQ:j0 zPd yRP yBP xBg:=by kernel_rfl
end Go.Hx
end

section
namespace Go.Hx
open Go.Proofs
variable [Glob]
end Go.Hx
end

section
namespace Go.Hx
open Go.Proofs
variable [Glob]
abbrev zWC:=oN [⟨none,.vbx 1 0 24 6 0⟩,qA 2 1 30 0 1 2 6]
abbrev zWD:=oR [oZ 4 1 0,oZ 5 4 0,⟨none,.sto (.t 5) 0 24 0 1 (.c (iv (-2)))⟩] [4,5]
abbrev zWE:HCode:=.reg [oE 3 0] false [.pin 29 0 24 []]
abbrev zWF:=oR [oA 6 3,oZ 7 1 5,oV 8 (.ldh (.t 7) 0 24 5),oI 9 8,oM 10 6 9] [6,7,8,9]
abbrev zWG:=oQ [oW 0 13 1 5,oD 1 false (oV 14 (.ldh (.t 13) 0 24 5)),oH 2 15 3,oW 3 16 1 5,oD 4 false (oV 17 (.ldh (.t 16) 0 24 5)),oH 5 18 3,o3 6 19 6 17 18,oD 7 false ⟨none,.vle 20 (.t 19) 29 0 24 [] 6 true⟩,oD 8 true ⟨none,.callo 21 zE0 20⟩,o3 9 22 6 14 15,oD 10 false ⟨none,.vse (.t 22) 29 0 24 [] 6 (.t 21)⟩] [13,14,15,16,17,18,19,20,21,22]
abbrev zWH:=oR [oA 11 3,oF 12 11 1,oA 3 12] [11,12]
abbrev zWI:HCode:=.regG [.unp 29 0 24 []] [jE 23 1 0 24 0 6,⟨none,.vst (.t 2) 1 30 0 6 23⟩] [.forget [23]]
abbrev yH8:=jX zWC zWD (jU zWE (jR 0 zWF 10 1 zWG zWH)) zWI .ret
abbrev zGV:=jZ 24 [(24,6),(30,6)] 36 0
abbrev zZQ:List RSrc:=[.cellB 2 1 30 0 6 true]
theorem zWJ {x x':OVal} (hW:hwp Tryz.prog yH8 (yGw zGV 0 [] zZQ {res:=.ov x'}) (F0v zGV x)):zC8 Tryz.prog zE0 x x':=
 zWB (fn:=Tryz.f86) (c:=Tryz.f86.body.getD .skip) (by kernel_rfl) (by kernel_rfl) (by kernel_rfl) (by kernel_rfl) (by kernel_rfl) (by kernel_rfl) (by kernel_rfl) (by kernel_rfl) (Nat.le_of_ble_eq_true rfl) hW
abbrev zZR:=oN [o4 2 0,qA 4 0 36 0 1 2 6]
abbrev zZS:=oR [oJ 8 2 0 1,oB 9 8 1,oA 10 1,oK 11 5 9 10,oT 12 11 5,oo 13 zDJ 12,jA 14 0 1 2 6 0 5 13,qA 5 1 42 0 1 2 6,oL 5 1 42 0 6 14] [8,9,10,11,12,13,14]
abbrev zZT:=oR [oT 15 2 1,oA 16 1,qC 17 zDt 15 16,oA 6 17] [15,16,17]
abbrev zZU:=oN [oE 7 0]
abbrev zZV:=oR [oA 18 7,oA 19 6,oI 20 19,oM 21 18 20] [18,19,20]
abbrev zZW:=oQ [oW 0 24 5 5,oD 1 false ⟨none,.vld 25 (.t 24) 1 42 5 1 false⟩,oa 2 26 2 1,oH 3 27 6,oH 4 28 7,o3 5 29 1 27 28,oX 6 30 29 1,qO 7 31 zB9 26 30,oD 8 false ⟨none,.vbs 32 zAq 6 31⟩,oD 9 false ⟨none,.vap 33 zAq 6 25 (.t 32)⟩,oW 10 34 5 5,oD 11 false ⟨none,.vst (.t 34) 1 42 5 1 33⟩] [24,25,26,27,28,29,30,31,32,33,34]
abbrev zZX:=oR [oA 22 7,oF 23 22 1,oA 7 23] [22,23]
abbrev zZY:=oR [jE 35 5 1 42 0 6,⟨none,.vst (.t 4) 0 36 0 6 35⟩] [35]
abbrev yKR:=jX zZR zZS zZT (jU zZU (jR 0 zZV 21 1 zZW zZX)) (jU zZY .ret)
abbrev zNQ:=jZ 36 [(36,6),(42,6)] 48 0
abbrev xBh:List RSrc:=[.cellB 4 0 36 0 6 true]
theorem zZZ:j0 zB9 yKR zNQ xBh:=by kernel_rfl
abbrev zPe:=oN [o4 4 0,o4 7 3,qn 8 0 62 5,oE 9 0]
abbrev zPf:=oR [oT 12 4 1,oo 13 zDe 12,oA 10 13] [12,13]
abbrev zPg:=oR [oA 14 10,om 15 14 0] [14]
abbrev zPh:=oR [qX 16 5,oA 17 10,oL 8 0 62 0 1 16,oA 9 17] [16,17]
abbrev zPi:=oR [oT 18 7 1,oo 19 zDe 18,oA 11 19] [18,19]
abbrev zPj:=oR [oA 20 11,om 21 20 0] [20]
abbrev zPk:=oR [qX 22 5,oA 23 11,oL 8 0 62 0 1 22,oA 9 23] [22,23]
abbrev zPl:=oR [oA 25 1,oJ 26 4 0 1,oB 27 26 1,oI 28 27,vU 29 28 1,vq 30 zAS 25 0 29,qJ 31 30,oA 24 31] [25,26,27,28,29,30,31]
abbrev zPm:=oR [qX 32 5,oL 8 0 62 0 1 32,oE 9 5] [32]
abbrev zPn:=oR [oA 34 2,oT 35 4 1,oA 36 1,qC 37 zDt 35 36,oI 38 37,vq 39 zAS 34 0 38,qJ 40 39,oA 33 40] [34,35,36,37,38,39,40]
abbrev zNR:=oR [qX 41 5,oL 8 0 62 0 1 41,oE 9 3] [41]
abbrev zNS:=oR [oJ 43 4 0 1,oB 44 43 1,oI 45 44,oJ 46 7 0 1,oB 47 46 1,oI 48 47,qp 49 45 48,qT 50 49 64,oA 42 50] [43,44,45,46,47,48,49,50]
abbrev zNT:=oR [qX 51 5,oL 8 0 62 0 1 51,oE 9 2] [51]
abbrev zNU:=oQ [oa 0 52 4 1,oD 1 false (oC 53 zFx [(.t 52,.v),(.c (iv 0),.v)]),oH 2 54 1,oH 3 55 2,oa 4 56 7 1,oD 5 true (oC 57 zB9 [(.t 56,.v),(.c (iv 0),.v)]),oD 6 true ⟨none,.callp 58 zE0 57⟩,oD 7 true (oC 59 zIW [(.t 53,.v),(.t 54,.v),(.t 55,.v),(.t 58,.v)]),oD 8 true (oC 60 zLb [(.c (.one (.nl 0)),.n zAC 5),(.t 59,.v),(.c (iv (-1)),.v)]),vt 9 61 5 0 1 60,qE 10 8 0 62 0 1 61,vY 11 9 0] [52,53,54,55,56,57,58,59,60,61]
abbrev zZ0:=jX zPe (jV zPf zPg (jP 15 zPh)) (jV zPi zPj (jP 21 zPk)) (.block 0 (jU zPl (jQ 24 (jU zPm .ret) (jU zPn (jQ 33 (jU zNR .ret) (jU zNS (jP 42 zNT))))))) (jU zNU .ret)
abbrev zJq:=jZ 62 [(62,1)] 63 0
abbrev xBi:List RSrc:=[.cellB 8 0 62 0 1 true,.tmp 9]
theorem zPo:j0 zFj zZ0 zJq xBi:=by kernel_rfl
end Go.Hx
end

section
namespace Go.Hx
open Go.Proofs
variable [Glob]
abbrev zDS:=37
abbrev zMB:=90
abbrev zCZ:=28
abbrev zCM:=74
abbrev zE8:=27
abbrev zMC:=30
abbrev zFB:=78
abbrev zGW:=29
abbrev zDT:=76
abbrev zCr:=73
abbrev zI9:=31
abbrev zDU:=38
abbrev zZ1:=oN [o4 1 0,vH 2 3]
abbrev zZ2:=oN [vp 3 zAF 3]
abbrev zZ3:=oN [oE 4 0]
abbrev zZ4:=oR [oA 8 4,oJ 9 1 0 1,oB 10 9 1,oI 11 10,oM 12 8 11] [8,9,10,11]
abbrev zZ5:=oR [oJ 15 1 0 1,oB 16 15 1,oA 17 4,oK 18 5 16 17,oT 19 18 5,oo 20 zMd 19,qd 5 20] [15,16,17,18,19,20]
abbrev zZ6:=oN [oE 6 0]
abbrev zZ7:=oR [oA 21 6,oA 22 5,oI 23 22,oM 24 21 23] [21,22,23]
abbrev zZ8:=oN [oE 7 0]
abbrev zZ9:HCode:=.drgG [.pin 3 0 0 [],.pin 5 0 0 []] [oH 0 27 7,oH 1 28 3,oD 2 false (oV 29 (.len false (.t 28))),oD 3 false (oV 30 (.ints .lss (.t 27) (.t 29))),oH 4 31 30,qG 5 31 32 5,qG 6 31 33 6,qr 7 31 34 3 32 33,oD 8 false ⟨some (31,true),.vlp 35 (.t 34) 5 0 0 [] 3 true⟩,qG 9 31 36 3,qG 10 31 37 7,qr 11 31 38 3 36 37,oD 12 false ⟨some (31,true),.vlp 39 (.t 38) 3 0 0 [] 3 true⟩,jM 13 31 40 zB7 35 39,qF 14 41 31 40] [.forget [27,28,29,30,31,32,33,34,35,36,37,38,39,40],.unp 3 0 0 [],.unp 5 0 0 []]
abbrev yAa:=oR [oA 42 7,oF 43 42 1,oA 7 43] [42,43]
abbrev zWK:HCode:=.drgG [.pin 3 0 0 [],.pin 5 0 0 []] [oH 0 44 7,oH 1 45 3,oD 2 false (oV 46 (.len false (.t 45))),oD 3 false (oV 47 (.ints .eql (.t 44) (.t 46))),oH 4 48 47,od 5 48 49 3,od 6 48 50 7,qI 7 48 51 3 49 50,vn 8 48 52 51 3 0 0 3,od 9 48 53 5,od 10 48 54 6,qI 11 48 55 3 53 54,vn 12 48 56 55 5 0 0 3,qv 13 48 57 zB7 52 56,qM 14 58 48 57] [.forget [44,45,46,47,48,49,50,51,52,53,54,55,56,57],.unp 3 0 0 [],.unp 5 0 0 []]
abbrev zWL:=oR [qd 59 3,oV 60 (.bld [.v (.int .i64 0),.v (mkS []),.nl 1] []),qK 61 3 60,qx 62 zAF 3 59 61,qd 3 62] [59,60,61,62]
abbrev zWM:HCode:=.drgG [.pin 3 0 0 []] [oH 0 63 3,oH 1 64 7,oD 2 false (oV 65 (.ints .add (.t 64) (.c (iv 1)))),qz 3 66 3 63 65,oH 4 67 3,oH 5 68 7,qz 6 69 3 67 68,oD 7 false ⟨none,.cpy (some 70) zAF 3 3 (.t 66) (.t 69)⟩] [.forget [63,64,65,66,67,68,69,70],.unp 3 0 0 []]
abbrev zWN:HCode:=.regG [.pin 3 0 0 [],.pin 5 0 0 []] [oA 71 3,oA 72 7,oA 73 5,oA 74 6,oK 75 3 73 74,⟨none,.vle 76 (.t 75) 5 0 0 [] 3 true⟩,oK 77 3 71 72,⟨none,.vse (.t 77) 3 0 0 [] 3 (.t 76)⟩] [.forget [71,72,73,74,75,76,77],.unp 3 0 0 [],.unp 5 0 0 []]
abbrev zEy:HCode:=.regG [.pin 3 0 0 []] [oA 78 3,oA 79 7,oA 80 3,oA 81 7,oK 82 3 80 81,oZ 83 82 2,⟨none,.vle 84 (.t 83) 3 0 0 [] 1 false⟩,oA 85 4,qK 86 1 85,qx 87 zAz 1 84 86,oK 88 3 78 79,oZ 89 88 2,⟨none,.vse (.t 89) 3 0 0 [] 1 (.t 87)⟩] [.forget [78,79,80,81,82,83,84,85,86,87,88,89],.unp 3 0 0 []]
abbrev zWO:=oR [oA 25 6,oF 26 25 1,oA 6 26] [25,26]
abbrev zWP:=oR [oA 13 4,oF 14 13 1,oA 4 14] [13,14]
abbrev zWQ:HCode:=.regG [.vfr 3 0 0] [oA 90 3,oA 2 90] [.forget [90]]
abbrev yKS:=jX zZ1 zZ2 (jU zZ3 (jR 0 zZ4 12 1 (jV zZ5 zZ6 (jR 2 zZ7 24 3 (jW zZ8 (jT 4 (jU (jU zZ9 (jO 41 4)) (.block 5 yAa))) (jU zWK (jQ 58 (jV zWL zWM zWN) .skip)) zEy) zWO)) zWP)) zWQ .ret
abbrev zNV:=jZ 91 [] 91 0
abbrev xBj:List RSrc:=[.tmp 2]
theorem yAb:j0 zCW yKS zNV xBj:=by kernel_rfl
abbrev yFc:=oN [o4 2 0,ox 4 0 15 5 3,oE 5 0]
abbrev yFd:=oR [oA 6 1,om 7 6 0] [6]
abbrev yFe:=oR [v6 8 5 3,oA 9 1,oL 4 0 15 0 2 8,oA 5 9] [8,9]
abbrev yFf:=oQ [oa 0 10 2 1,qY 1 11 zFw 10,oa 2 12 2 1,qb 3 13 zCW 12,oD 4 false (oV 14 (.bld [.nl 5,.nl 3] [(0,1,.t 11),(1,1,.t 13)])),qE 5 4 0 15 0 2 14,vY 6 5 0] [10,11,12,13,14]
abbrev yOr:=jW yFc (jU yFd (jP 7 yFe)) yFf .ret
abbrev zQI:=jZ 15 [(15,2)] 17 0
abbrev xBk:List RSrc:=[.cellB 4 0 15 0 2 true,.tmp 5]
theorem yFg:j0 zI9 yOr zQI xBk:=by kernel_rfl
abbrev zRS:=oN [o4 2 0,o4 3 1,oO 4]
abbrev zRT:=oR [oJ 5 2 0 1,oT 6 5 1,oJ 7 3 0 1,oT 8 7 1,qC 9 zFV 6 8,oA 10 9,oY 10 11 2 1 1,oU 10 12 11 1,oY 10 13 3 1 1,oU 10 14 13 1,qQ 10 15 zCb 12 14,oP 16 10 15,oA 4 16] [5,6,7,8,9,10,11,12,13,14,15,16]
abbrev yFh:=jV zRS zRT .ret
abbrev zKF:=jZ 17 [] 17 0
abbrev xBl:List RSrc:=[.tmp 4]
theorem zRU:j0 zDU yFh zKF xBl:=by kernel_rfl
abbrev yH9:=oN [o4 1 0,ox 2 0 45 5 3,oE 3 0]
abbrev yIa:=oR [oT 10 1 1,oo 11 zDK 10,oA 9 11,qD 12 9 0,qD 13 9 1,oA 4 12,oA 5 13] [9,10,11,12,13]
abbrev yIb:=oR [oA 14 5,om 15 14 0] [14]
abbrev yIc:=oR [v6 16 5 3,oA 17 5,oL 2 0 45 0 2 16,oA 3 17] [16,17]
abbrev yId:=oR [oA 18 4,vk 19 5 3 1 1 18,ox 6 1 47 5 3,oL 6 1 47 0 2 19] [18,19]
abbrev yIe:=oR [oJ 20 1 0 1,oB 21 20 1,oI 22 21,oE 23 0] [20]
abbrev yIf:=oN [oM 24 23 22]
abbrev yIg:=oR [oK 25 5 21 23,oT 26 25 5,qP 8 2 49 0 1 2,oL 8 2 49 0 5 26] [25,26]
abbrev yIh:=oQ [oW 0 27 8 3,qB 1 28 27 2 49 3 1,qY 2 29 zBe 28,oW 3 30 8 4,qB 4 31 30 2 49 4 1,qY 5 32 zBt 31,oW 6 33 8 3,qE 7 33 2 49 3 1 29,oW 8 34 8 4,qE 9 34 2 49 4 1 32] [27,28,29,30,31,32,33,34]
abbrev yIi:=oR [oZ 35 6 0,oZ 36 35 0,vr 37 36 1 47 0 zAC 5,oq 38 8 2 49 0 5,qK 39 5 38,oy 40 zAC 5 37 39,oZ 41 6 0,oZ 42 41 0,v8 42 1 47 0 40] [35,36,37,38,39,40,41,42]
abbrev yFi:=oR [oF 43 23 1,oA 23 43] [43]
abbrev yFj:HCode:=.regG [.ffr 47 1 47] [oq 44 6 1 47 0 2,oL 2 0 45 0 2 44,oE 3 0] [.forget [44]]
abbrev yPX:=jX yH9 yIa (jU yIb (jP 15 yIc)) yId (jV (jU yIe (jS 0 yIf 24 1 (jV yIg yIh yIi) yFi)) yFj .ret)
abbrev zWR:=jZ 45 [(45,2),(47,2),(49,5)] 54 0
abbrev xBm:List RSrc:=[.cellB 2 0 45 0 2 true,.tmp 3]
theorem yIj:j0 zE8 yPX zWR xBm:=by kernel_rfl
abbrev zWS:=oN [o4 2 0,ox 4 0 30 5 3,oE 5 0]
abbrev zWT:=oR [oT 9 2 2,oo 10 zI3 9,oA 6 10] [9,10]
abbrev zWU:=oR [oA 11 6,om 12 11 0] [11]
abbrev zWV:=oR [v6 13 5 3,oA 14 6,oL 4 0 30 0 2 13,oA 5 14] [13,14]
abbrev zWW:=oR [oA 16 1,oJ 17 2 0 1,oT 18 17 1,qW 19 16 18,oA 15 19,qD 20 15 0,qD 21 15 1,qn 7 1 32 5,oL 7 1 32 0 1 20,oA 8 21] [15,16,17,18,19,20,21]
abbrev zWX:=oR [oA 22 8,om 23 22 0] [22]
abbrev zWY:=oR [v6 24 5 3,oA 25 8,oL 4 0 30 0 2 24,oA 5 25] [24,25]
abbrev zWZ:=oR [oq 26 7 1 32 0 1,oo 27 zE8 26,qD 28 27 0,qD 29 27 1,oL 4 0 30 0 2 28,oA 5 29] [26,27,28,29]
abbrev yIk:=jX zWS (jV zWT zWU (jP 12 zWV)) zWW (jU zWX (jP 23 zWY)) (jU zWZ .ret)
abbrev zLJ:=jZ 30 [(30,2),(32,1)] 33 0
abbrev xBn:List RSrc:=[.cellB 4 0 30 0 2 true,.tmp 5]
theorem zW0:j0 zCr yIk zLJ xBn:=by kernel_rfl
abbrev yAc:=oN [o4 4 0,o4 5 1,o4 6 2,o4 7 3,ox 8 0 15 5 3,oE 9 0]
abbrev yAd:=oR [oT 10 4 2,oV 11 (.mkf zCM [.t 5,.t 6,.t 7]),qC 12 zCr 10 11,qD 13 12 0,qD 14 12 1,oL 8 0 15 0 2 13,oA 9 14] [10,11,12,13,14]
abbrev yKT:=jV yAc yAd .ret
abbrev zFC:=jZ 15 [(15,2)] 17 0
abbrev xBo:List RSrc:=[.cellB 8 0 15 0 2 true,.tmp 9]
theorem zGX:j0 zCZ yKT zFC xBo:=by kernel_rfl
abbrev zRV:=oN [o4 4 0,qn 5 0 14 5,oE 6 0]
abbrev zRW:=oR [oT 7 4 1,oB 8 1 1,oB 9 2 1,oT 10 3 1,vN 11 zIY 7 8 9 10,qD 12 11 0,qD 13 11 1,oL 5 0 14 0 1 12,oA 6 13] [7,8,9,10,11,12,13]
abbrev yFk:=jV zRV zRW .ret
abbrev zKG:=jZ 14 [(14,1)] 15 0
abbrev xBp:List RSrc:=[.cellB 5 0 14 0 1 true,.tmp 6]
theorem zRX:j0 zCM yFk zKG xBp:=by kernel_rfl
abbrev yAe:=oN [o4 2 0,o4 3 1,ox 4 0 11 5 3,oE 5 0]
abbrev yAf:=oR [oT 6 2 2,oV 7 (.mkf zDT [.t 3]),qC 8 zCr 6 7,qD 9 8 0,qD 10 8 1,oL 4 0 11 0 2 9,oA 5 10] [6,7,8,9,10]
abbrev yKU:=jV yAe yAf .ret
abbrev zNW:=jZ 11 [(11,2)] 13 0
abbrev xBq:List RSrc:=[.cellB 4 0 11 0 2 true,.tmp 5]
theorem yAg:j0 zGW yKU zNW xBq:=by kernel_rfl
abbrev zRY:=oN [o4 2 0,qn 3 0 10 5,oE 4 0]
abbrev zRZ:=oR [oT 5 2 1,oB 6 1 1,qC 7 zIZ 5 6,qD 8 7 0,qD 9 7 1,oL 3 0 10 0 1 8,oA 4 9] [5,6,7,8,9]
abbrev yFl:=jV zRY zRZ .ret
abbrev zKH:=jZ 10 [(10,1)] 11 0
abbrev xBr:List RSrc:=[.cellB 3 0 10 0 1 true,.tmp 4]
theorem zR0:j0 zDT yFl zKH xBr:=by kernel_rfl
abbrev yKV:=oN [o4 3 0,o4 4 1,o4 5 2,ox 6 0 13 5 3,oE 7 0]
abbrev yKW:=oR [oT 8 3 2,vb 9 zFB 4 5,qC 10 zCr 8 9,qD 11 10 0,qD 12 10 1,oL 6 0 13 0 2 11,oA 7 12] [8,9,10,11,12]
abbrev yRQ:=jV yKV yKW .ret
abbrev yBQ:=jZ 13 [(13,2)] 15 0
abbrev xBs:List RSrc:=[.cellB 6 0 13 0 2 true,.tmp 7]
theorem yKX:j0 zMC yRQ yBQ xBs:=by kernel_rfl
abbrev yFm:=oN [o4 3 0,qn 4 0 12 5,oE 5 0]
abbrev yFn:=oR [oT 6 3 1,oB 7 1 1,oT 8 2 5,oC 9 zPd [(.t 6,.v),(.t 7,.v),(.t 8,.v)],qD 10 9 0,qD 11 9 1,oL 4 0 12 0 1 10,oA 5 11] [6,7,8,9,10,11]
abbrev yOs:=jV yFm yFn .ret
abbrev zQJ:=jZ 12 [(12,1)] 13 0
abbrev xBt:List RSrc:=[.cellB 4 0 12 0 1 true,.tmp 5]
theorem yFo:j0 zFB yOs zQJ xBt:=by kernel_rfl
abbrev yKY:=oN [ox 0 0 9 5 3]
abbrev yKZ:=oR [oC 4 zJX [],oo 5 zE8 4,oA 3 5,qD 6 3 0,qD 7 3 1,ox 1 1 11 5 3,oL 1 1 11 0 2 6,oA 2 7] [2,3,4,5,6,7]
abbrev yK0:=oR [oq 8 1 1 11 0 2,oL 0 0 9 0 2 8] [8]
abbrev yRR:=jW yKY yKZ yK0 .ret
abbrev yBR:=jZ 9 [(9,2),(11,2)] 13 0
abbrev xBu:List RSrc:=[.cellB 0 0 9 0 2 true]
theorem yK1:j0 zMB yRR yBR xBu:=by kernel_rfl
abbrev zR1:=oN [oO 0]
abbrev zR2:HCode:=.reg [oC 8 zMB [],oC 9 zGW [(.t 8,.v),(.c (iv 2),.v)],oA 7 9,qD 10 7 0,qD 11 7 1,ox 1 0 72 5 3,oL 1 0 72 0 2 10,oA 2 11] false [.frz 0 72 2,.forget [7,8,9,10,11]]
abbrev zR3:HCode:=.reg [oT 13 1 2,oV 14 (.bld [.v (.int .i64 0),.v (mkS []),.v (mkS []),.nl 1,.nl 2] [(0,1,.c (iv (-1))),(1,1,.c (sv [120]))]),qK 15 5 14,oV 16 (.bld [.nl 5] [(0,1,.t 15)]),oC 17 zCZ [(.t 13,.v),(.c (iv 0),.v),(.c (iv 2),.v),(.t 16,.v)],oA 12 17,qD 18 12 0,qD 19 12 1,ox 3 1 74 5 3,oL 3 1 74 0 2 18,oA 4 19] false [.frz 1 74 2,.forget [12,13,14,15,16,17,18,19]]
abbrev zR4:HCode:=.reg [oT 21 3 2,oV 22 (.bld [.v (.int .i64 0),.v (mkS []),.v (mkS []),.nl 1,.nl 2] [(1,1,.c (sv [121]))]),vq 23 zMC 21 3 22,oA 20 23,qD 24 20 0,qD 25 20 1,ox 5 2 76 5 3,oL 5 2 76 0 2 24,oA 6 25] false [.frz 2 76 2,.forget [20,21,22,23,24,25]]
abbrev zR5:=oQ [oH 0 26 2,oD 1 false (oV 27 (.ints .eql (.t 26) (.c (iv 0)))),oH 2 28 27,qG 3 28 29 4,qm 4 28 30 29 0,qF 5 31 28 30,oH 6 32 31,qG 7 32 33 6,qm 8 32 34 33 0,qF 9 35 32 34,oH 10 36 35,ot 11 36 37 1 1 1,oi 12 36 38 37 1,qo 13 36 39 38,qm 14 36 40 39 4,qF 15 41 36 40,oH 16 42 41,ot 17 42 43 3 1 1,oi 18 42 44 43 1,qo 19 42 45 44,qm 20 42 46 45 5,qF 21 47 42 46,oH 22 48 47,ot 23 48 49 5 0 1,ot 24 48 50 49 0 1,oi 25 48 51 50 1,qo 26 48 52 51,qm 27 48 53 52 4,qF 28 54 48 53,oH 29 55 54,ot 30 55 56 5 0 1,ot 31 55 57 56 0 1,oi 32 55 58 57 1,oD 33 false (oG 55 true 59 (.idxA 5 (.t 58) (.c (iv 3)))),ot 34 55 60 59 1 1,oi 35 55 61 60 1,oD 36 false (oG 55 true 62 (.strs .eql (.t 61) (.c (sv [121])))),qF 37 63 55 62,oH 38 64 63,ot 39 64 65 5 1 1,oi 40 64 66 65 1,ot 41 64 67 5 0 1,oD 42 false (oG 64 true 68 (.ldR (.t 67) 1 true)),oD 43 true ⟨some (64,true),.call (some 69) zCW [(.t 68,.v)]⟩,jM 44 64 70 zCb 66 69,qF 45 71 64 70,oH 46 0 71] [26,27,28,29,30,31,32,33,34,35,36,37,38,39,40,41,42,43,44,45,46,47,48,49,50,51,52,53,54,55,56,57,58,59,60,61,62,63,64,65,66,67,68,69,70,71]
abbrev yFp:=jX zR1 zR2 zR3 zR4 (jU zR5 .ret)
abbrev zKI:=jZ 72 [(72,2),(74,2),(76,2)] 78 0
abbrev xBv:List RSrc:=[.tmp 0]
theorem zR6:j0 zDS yFp zKI xBv:=by kernel_rfl
end Go.Hx
end

section
set_option maxRecDepth 100000
set_option maxHeartbeats 4000000
namespace Go.Hx
open Go.Proofs
variable [Glob]
attribute [local go_sem] zAh zAj zAg zAd ndV zAm zAn atV OVal.cells yBd List.drop_succ_cons List.drop_zero List.take_succ_cons List.getD_nil Nat.sub_zero List.map_nil List.map_cons List.take_zero zEx OV.left List.length_set
attribute [local go_sem ↓] yNp yNq yWA
attribute [local go_sem] reduceCtorEq Nat.reduceAdd Nat.reduceEqDiff reduceIte Nat.reduceLeDiff Nat.reduceLT Nat.reduceSub
def kE (k:Key):Ent:=⟨k.1,k.2,[]⟩
def ksO (l:List Key):List (List OV):=ovT zAz (l.map kE)
theorem yPY (l:List Key):(ksO l).length=l.length:=by simp [ksO,zEx]
theorem yUJ (a b:List Key):ksO (a++b)=ksO a++ksO b:=by simp [ksO,ovT]
theorem yOt (x:Nd) (hx:x.cls.length≤100):Contract Tryz.prog zMd [.val (.agg (ndV x))] {res:=.ov (.one (.os none zAF 3 (ksO (zQk x))))}:=by
 have hk:zQk x=((1,x.tag)::(if x.id=[] then [] else [(2,x.id)]))++x.cls.map fun c=>((3:Int),c):=rfl
 unfold ndV
 refine mkA yKi (base:=0) (fo rfl) (fun hfit=>?_)
 unfold F0 yBD
 refine goU ?_
 refine zAa (by rfl) trivial (fun h1=>?_) (fun h1=>?_)
 have hid:x.id≠[]:=by simpa using h1
 rw [if_neg hid] at hk
 refine goW ?_
 obtain ⟨K0,hK0⟩:∃ k,k=[((1:Int),x.tag),(2,x.id)]:=⟨_,rfl⟩
 rw [←hK0] at hk
 have hKl:K0.length≤2:=by rw [hK0];simp
 have hKr:ksO K0=[[.p (.v (.int .i64 1)),.p (bS x.tag),.os none zAz 1 []],[.p (.v (.int .i64 2)),.p (bS x.id),.os none zAz 1 []]]:=by rw [hK0];rfl
 rotate_left
 have hid:x.id=[]:=by simpa using h1
 rw [if_pos hid] at hk
 refine goW ?_
 obtain ⟨K0,hK0⟩:∃ k,k=[((1:Int),x.tag)]:=⟨_,rfl⟩
 rw [←hK0] at hk
 have hKl:K0.length≤2:=by rw [hK0];simp
 have hKr:ksO K0=[[.p (.v (.int .i64 1)),.p (bS x.tag),.os none zAz 1 []]]:=by rw [hK0];rfl
 all_goals
  refine zAc (fun i:Nat=>[(4,.pv (iv i)),(3,.ov (.one (.os none zAF 3 (ksO (K0++(x.cls.take i).map fun c=>((3:Int),c)))))),(22,.un)]) (fun i:Nat=>x.cls.length-i) (fun i:Nat=>i≤x.cls.length) (0) ?_ (Nat.zero_le _) ?_
  focus (simp (maxSteps:=2000000) only [go_sem,zAu,zAE,zA9,zAv];all_goals (repeat' (first|exact trivial|exact zAI (by omega)|exact zAB rfl|exact zAU rfl|exact zAW|exact le_refl _|refine And.intro ?_ ?_)))
  ·rw [List.append_nil,hKr];exact zAU rfl
  intro i hi
  have hkl:(ksO (K0++(x.cls.take i).map fun c=>((3:Int),c))).length≤102:=by rw [yPY,List.length_append,List.length_map,List.length_take];omega
  obtain ⟨R,hR⟩:∃ R,R=ksO (K0++(x.cls.take i).map fun c=>((3:Int),c)):=⟨_,rfl⟩
  rw [←hR] at hkl ⊢
  refine goW ?_
  refine zAa (by rfl) trivial (fun g=>?_) (fun g=>?_)
  ·have hil:i < x.cls.length:=by simpa using g
   have hcj:=zGq x.cls i hil
   try simp (maxSteps:=2000000) only [go_sem,hcj]
   repeat with_reducible refine zAt ?_
   refine ⟨i+1,by omega,by omega,?_⟩
   have e:ksO (K0++(x.cls.take (i+1)).map fun c=>((3:Int),c))=R++[[.p (.v (.int .i64 3)),.p (bS (x.cls.getD i [])),.os none zAz 1 []]]:=by
    rw [hR,List.take_succ_eq_append_getElem hil,List.map_append,←List.append_assoc,yUJ]
    simp [ksO,ovT,yH5,zK9,kE,hil]
   rw [e]
   exact leA
  ·have hil:i=x.cls.length:=by simp at g;omega
   rw [hil,List.take_length,←hk] at hR
   refine goW ?_
   rw [hR]
   exact yPx rfl
theorem yBS (es:List Ent) (i:Nat) (hi:i≤es.length) (z:List OV) (hz:z.length=3):((zD3 i (ovT zAz es++[z])).getD i []).length=3:=by
 have hl:(List.take i (ovT zAz es++[z])).length=i:=by rw [List.length_take,List.length_append,zEx];simp;omega
 have h3:((ovT zAz es++[z]).getD i []).length=3:=by
  rcases Nat.lt_or_ge i es.length with h|h
  ·rw [List.getD_eq_getElem?_getD,List.getElem?_append_left (by rw [zEx];exact h),←List.getD_eq_getElem?_getD,zWz _ _ _ h];rfl
  ·have:i=es.length:=by omega
   rw [List.getD_eq_getElem?_getD,List.getElem?_append_right (by rw [zEx];omega),zEx,this,Nat.sub_self];exact hz
 unfold zD3
 rw [List.getD_eq_getElem?_getD,List.getElem?_append_left (by simp [hl]),List.getElem?_append_right (by omega),hl,Nat.sub_self]
 simpa using h3
theorem yPZ (es:List Ent) (k:Key) (n:Int) (i:Nat) (hi:i≤es.length) (hj:∀ j,j < i→zAJ (es.getD j default).key k=true) (h:i=es.length∨zAJ k (es.getD i default).key=true):yBw es k n=(es.take i++kE k::es.drop i).set i ⟨k.1,k.2,[n]⟩:=by
 rw [yMo es i k n hi hj h,List.set_append_right _ _ (by simp;omega)]
 have:i-(es.take i).length=0:=by simp;omega
 rw [this];rfl
theorem yMr (es:List Ent) (i:Nat) (x:Ent) (hi:i≤es.length):(es.take i++x::es.drop i).getD i default=x:=by
 rw [List.getD_eq_getElem?_getD,List.getElem?_append_right (by simp;omega)]
 have:i-(es.take i).length=0:=by simp;omega
 rw [this];rfl
theorem yUK (es:List Ent) (i:Nat) (e:Ent):(ovT zAz es).set i (yH5 zAz e)=ovT zAz (es.set i e):=by
 unfold ovT;rw [List.map_set]
theorem zFD (d:List Nd) (h64:d.length≤64) (hcls:∀ i,i < d.length→(d.getD i default).cls.length≤64):Contract Tryz.prog zCW [.val (zB6 d)] {res:=.val (.one (.sl 3 (zEf (zBF d))))}:=by
 unfold zB6
 refine mkA yAb (base:=0) (fo rfl) (fun hfit=>?_)
 unfold F0 zNV
 refine goU ?_
 refine zAc (fun n:Nat=>[(4,.pv (iv n)),(3,.ov (.one (.os none zAF 3 (ovT zAz (zCI (zDd d n)))))),(5,.un),(6,.un),(7,.un),(12,.un),(24,.un),(41,.un),(58,.un)]) (fun n:Nat=>d.length-n) (fun n:Nat=>n≤d.length) (0) ?_ (Nat.zero_le _) ?_
 focus (exact leA)
 intro n hn
 refine goW ?_
 refine zAa (by rfl) trivial (fun g1=>?_) (fun g1=>?_)
 ·have hnl:n < d.length:=by simpa using g1
  have hx:=zBv d n hnl
  have hpl:=zIU d n fun j hj=>hcls j (by omega)
  have hc:=hcls n hnl
  have hsu:zDd d (n+1)=zDd d n++(zQk (d.getD n default)).map fun k=>(k,(n:Int)):=rfl
  obtain ⟨x,hxe⟩:∃ x,x=d.getD n default:=⟨_,rfl⟩
  rw [←hxe] at hx hsu hc
  have hK:=yOt x (by omega)
  have hkl:=yBy x
  obtain ⟨ks,hks⟩:∃ k,k=zQk x:=⟨_,rfl⟩
  rw [←hks] at hK hkl hsu
  unfold ndV at hx hK
  obtain ⟨p0,hp0⟩:∃ p,p=zDd d n:=⟨_,rfl⟩
  rw [←hp0] at hpl hsu ⊢
  try simp (maxSteps:=2000000) only [go_sem,hx]
  repeat with_reducible refine zAt ?_
  refine zUm (by repeat' constructor) (hK) ?_
  refine goW ?_
  refine zAc (fun s:Nat×List (List OV)=>[(6,.pv (iv s.1)),(5,.ov (.one (.os none zAF 3 s.2))),(3,.ov (.one (.os none zAF 3 (ovT zAz (zCI (p0++(ks.take s.1).map fun k=>(k,(n:Int)))))))),(7,.un),(24,.un),(41,.un),(58,.un)]) (fun s:Nat×List (List OV)=>ks.length-s.1) (fun s:Nat×List (List OV)=>s.1≤ks.length∧s.2.length=ks.length∧(∀ j,s.1≤j→j < ks.length→s.2.getD j []=yH5 zAz (kE (ks.getD j default)))) ((0,ksO ks)) ?_ ⟨Nat.zero_le _,yPY _,fun j _ hj=>(by simp [ksO,ovT,hj])⟩ ?_
  focus (simp (maxSteps:=2000000) only [go_sem,zAu,zAE,zA9,zAv];all_goals (repeat' (first|exact trivial|exact zAI (by omega)|exact zAB rfl|exact zAU rfl|exact zAW|exact le_refl _|refine And.intro ?_ ?_)))
  ·exact zAU (by rw [List.append_nil])
  rintro ⟨q,R⟩ ⟨hq,hRl,hR⟩
  simp only at hq hRl hR
  try simp (maxSteps:=2000000) only [go_sem,hRl]
  repeat with_reducible refine zAt ?_
  refine zAa (by rfl) trivial (fun g2=>?_) (fun g2=>?_)
  ·have hql:q < ks.length:=by simpa using g2
   have hRq:=hR q (Nat.le_refl _) hql
   obtain ⟨ky,hky⟩:∃ k,k=ks.getD q default:=⟨_,rfl⟩
   rw [←hky] at hRq
   have hstep:p0++(ks.take (q+1)).map (fun k=>(k,(n:Int)))=(p0++(ks.take q).map fun k=>(k,(n:Int)))++[(ky,(n:Int))]:=by
    rw [List.take_succ_eq_append_getElem hql,List.map_append,←List.append_assoc,hky]
    simp [hql]
   obtain ⟨p1,hp1⟩:∃ p,p=p0++(ks.take q).map fun k=>(k,(n:Int)):=⟨_,rfl⟩
   have hp1l:p1.length≤n * 66+66:=by rw [hp1,List.length_append,List.length_map,List.length_take];omega
   have hel:=yOq p1
   have hnode:=fun e=>yKv p1 (e:=e)
   have hins:=zUp p1 (ky,(n:Int))
   rw [←hp1] at hstep ⊢
   rw [←hstep] at hins
   obtain ⟨es,hes⟩:∃ e,e=zCI p1:=⟨_,rfl⟩
   rw [←hes] at hel hnode hins ⊢
   refine goW ?_
   refine zAc (fun i:Nat=>[(7,.pv (iv i)),(5,.ov (.one (.os none zAF 3 R))),(3,.ov (.one (.os none zAF 3 (ovT zAz es)))),(41,.un)]) (fun i:Nat=>es.length-i) (fun i:Nat=>i≤es.length∧∀ j,j < i→zAJ (es.getD j default).key ky=true) (0) ?_ ⟨Nat.zero_le _,fun j hj=>absurd hj (Nat.not_lt_zero _)⟩ ?_
   focus (exact leA)
   rintro i ⟨hi,hlt⟩
   have hRq:R.getD q []=[.p (bI ky.1),.p (bS ky.2),.os none zAz 1 []]:=hRq
   have h48:es.length≤4400:=by omega
   have A:i < es.length∧zAJ (es.getD i default).key ky=true∨(i=es.length∨i < es.length∧zAJ ky (es.getD i default).key=true)∨(i < es.length∧(es.getD i default).key=ky):=by
    rcases Nat.lt_or_ge i es.length with h|h
    ·cases h1:zAJ (es.getD i default).key ky with
     |true=>exact .inl ⟨h,rfl⟩
     |false=>
      cases h2:zAJ ky (es.getD i default).key with
      |true=>exact .inr (.inl (.inr ⟨h,rfl⟩))
      |false=>exact .inr (.inr ⟨h,zIS h1 h2⟩)
    ·exact .inr (.inl (.inl (by omega)))
   refine goW ?_
   intro b3 b5
   have hB:∀ e:Ent,Contract Tryz.prog zB7 [.val (.agg [bI ky.1,bS ky.2,.any]),.val (.agg [bI e.kind,bS e.name,.any])] {res:=.val (bv (zAJ e.key ky))}:=fun e=>zJp ⟨ky.1,ky.2,[]⟩ e .any .any
   have hB2:∀ e:Ent,Contract Tryz.prog zB7 [.val (.agg [bI e.kind,bS e.name,.any]),.val (.agg [bI ky.1,bS ky.2,.any])] {res:=.val (bv (zAJ ky e.key))}:=fun e=>zJp e ⟨ky.1,ky.2,[]⟩ .any .any
   rcases A with ⟨hil,hk1⟩|(hie|⟨hil,hk1⟩)|⟨hil,hk1⟩
   ·have t1:decide ((i:Int) < (es.length:Int))=true:=by simpa using hil
    have hei:=zWz zAz es i hil
    have hB:=hB (es.getD i default)
    rw [hk1] at hB
    have hlt':∀ j,j < i+1→zAJ (es.getD j default).key ky=true:=fun j hj=>by
     rcases Nat.lt_or_ge j i with h|h
     ·exact hlt j h
     ·have:j=i:=by omega
      rw [this];exact hk1
    obtain ⟨e,he⟩:∃ e,e=es.getD i default:=⟨_,rfl⟩
    rw [←he] at hei hB
    unfold yH5 zK9 at hei
    try simp (maxSteps:=2000000) only [go_sem,t1,hRq,hei,yM9]
    repeat with_reducible refine zAt ?_
    apply zAo (h2:=fun _=>hB)
    ·(simp (maxSteps:=2000000) only [go_sem];rfl)
    ·intro h;repeat' (first|exact trivial|exact h|refine And.intro ?_ ?_)
    refine goW ?_
    refine zE5 (by rfl) trivial ?_
    refine goW ?_
    refine ⟨i+1,by omega,⟨by omega,hlt'⟩,?_⟩
    exact leA
   have t1:decide ((i:Int) < (es.length:Int))=false:=by rw [hie];simp
   have t2:((i:Int)==(es.length:Int))=true:=by rw [hie];simp
   have hnew:=yPZ es ky n i hi hlt (.inl hie)
   try simp (maxSteps:=2000000) only [go_sem,t1,hRq]
   repeat with_reducible refine zAt ?_
   refine zAo (T:=false) (x:=bv false) (by rfl) (fun h=>by cases h) (fun h=>by cases h) ?_
   refine goW ?_
   refine zJR (by rfl) trivial ?_
   refine goW ?_
   intro b6 b7
   try simp (maxSteps:=2000000) only [go_sem,t2,Bool.not_true]
   repeat with_reducible refine zAt ?_
   refine zAo (T:=false) (x:=bv false) (by rfl) (fun h=>by cases h) (fun h=>by cases h) ?_
   refine goW ?_
   refine zE5 (by rfl) trivial ?_
   refine goW ?_
   obtain ⟨RR,hRR⟩:∃ RR,RR=ovT zAz es++[[OV.p (PV.v (Value.int IntKind.i64 0)),OV.p (PV.v (mkS [])),OV.p (PV.sl 1 [])]]:=⟨_,rfl⟩
   have hRl2:RR.length=es.length+1:=by rw [hRR,List.length_append,zEx];rfl
   have hto:((i:Int)+1).toNat=i+1:=by omega
   rw [←hRR]
   intro b8
   try simp (maxSteps:=2000000) only [go_sem,hRl2,hto]
   repeat with_reducible refine zAt ?_
   refine yWC (b:=b8) (i:=i) (rows:=RR) rfl rfl rfl (by omega) (by omega) (by omega) (by decide) ?_
   obtain ⟨R3,hR3⟩:∃ R3,R3=zD3 i RR:=⟨_,rfl⟩
   have hR3l:R3.length=es.length+1:=by rw [hR3,hRR];exact yH7 _ _ _ hi _
   have hrow:(R3.getD i []).length=3:=by rw [hR3,hRR];exact yBS _ _ hi _ rfl
   rw [←hR3]
   have hdr:List.drop 3 (R3.getD i [])=[]:=List.drop_eq_nil_of_le (by omega)
   have hset:R3.set i [OV.p (bI ky.1),.p (bS ky.2),.os none zAz 1 []]=ovT zAz (es.take i++kE ky::es.drop i):=by
    rw [hR3,hRR,yH6 _ _ _ hi]
    simp [ovT,yH5,zK9,kE]
   generalize hG14:hwp Tryz.prog zEy=G14
   try simp (maxSteps:=2000000) only [go_sem,hR3l,hRq,hrow,hdr,List.append_nil,hset,OV.left]
   repeat with_reducible refine zAt ?_
   have hR1l:(R.set q [OV.p (bI ky.1),.p (bS ky.2),.hole]).length=ks.length:=by rw [List.length_set];exact hRl
   have hR1:∀ j,q+1≤j→j < ks.length→(R.set q [OV.p (bI ky.1),.p (bS ky.2),.hole]).getD j []=yH5 zAz (kE (ks.getD j default)):=fun j h1 h2=>by
    rw [List.getD_eq_getElem?_getD,List.getElem?_set_ne (by omega),←List.getD_eq_getElem?_getD];exact hR j (by omega) h2
   obtain ⟨R1,hR1e⟩:∃ R1,R1=R.set q [OV.p (bI ky.1),.p (bS ky.2),.hole]:=⟨_,rfl⟩
   rw [←hR1e] at hR1l hR1 ⊢
   have hi1:i < (es.take i++kE ky::es.drop i).length:=by simp;omega
   have hl1:(es.take i++kE ky::es.drop i).length≤5000:=by simp;omega
   have hn1:((es.take i++kE ky::es.drop i).getD i default).nodes.length≤5000:=by rw [yMr _ _ _ hi];simp [kE]
   have hins1:zCI (p0++(ks.take (q+1)).map fun k=>(k,(n:Int)))=(es.take i++kE ky::es.drop i).set i ⟨((es.take i++kE ky::es.drop i).getD i default).kind,((es.take i++kE ky::es.drop i).getD i default).name,((es.take i++kE ky::es.drop i).getD i default).nodes++[(n:Int)]⟩:=by
    rw [hins,yMr _ _ _ hi];exact hnew
   obtain ⟨es1,hes1⟩:∃ e,e=es.take i++kE ky::es.drop i:=⟨_,rfl⟩
   rw [←hes1] at hi1 hl1 hn1 hins1 ⊢
   rotate_left
   have t1:decide ((i:Int) < (es.length:Int))=true:=by simpa using hil
   have t2:((i:Int)==(es.length:Int))=false:=by simp;omega
   have hnew:=yPZ es ky n i hi hlt (.inr hk1)
   have hei:=zWz zAz es i hil
   have hB:=hB (es.getD i default)
   rw [zIT hk1] at hB
   have hB2:=hB2 (es.getD i default)
   rw [hk1] at hB2
   obtain ⟨e,he⟩:∃ e,e=es.getD i default:=⟨_,rfl⟩
   rw [←he] at hei hB hB2
   unfold yH5 zK9 at hei
   try simp (maxSteps:=2000000) only [go_sem,t1,hRq,hei,yM9]
   repeat with_reducible refine zAt ?_
   apply zAo (h2:=fun _=>hB)
   ·(simp (maxSteps:=2000000) only [go_sem];rfl)
   ·intro h;repeat' (first|exact trivial|exact h|refine And.intro ?_ ?_)
   refine goW ?_
   refine zJR (by rfl) trivial ?_
   refine goW ?_
   intro b6 b7
   try simp (maxSteps:=2000000) only [go_sem,t2,Bool.not_false,hRq,hei,yM9]
   repeat with_reducible refine zAt ?_
   apply zAo (h2:=fun _=>hB2)
   ·(simp (maxSteps:=2000000) only [go_sem];rfl)
   ·intro h;repeat' (first|exact trivial|exact h|refine And.intro ?_ ?_)
   refine goW ?_
   refine zE5 (by rfl) trivial ?_
   refine goW ?_
   obtain ⟨RR,hRR⟩:∃ RR,RR=ovT zAz es++[[OV.p (PV.v (Value.int IntKind.i64 0)),OV.p (PV.v (mkS [])),OV.p (PV.sl 1 [])]]:=⟨_,rfl⟩
   have hRl2:RR.length=es.length+1:=by rw [hRR,List.length_append,zEx];rfl
   have hto:((i:Int)+1).toNat=i+1:=by omega
   rw [←hRR]
   intro b8
   try simp (maxSteps:=2000000) only [go_sem,hRl2,hto]
   repeat with_reducible refine zAt ?_
   refine yWC (b:=b8) (i:=i) (rows:=RR) rfl rfl rfl (by omega) (by omega) (by omega) (by decide) ?_
   obtain ⟨R3,hR3⟩:∃ R3,R3=zD3 i RR:=⟨_,rfl⟩
   have hR3l:R3.length=es.length+1:=by rw [hR3,hRR];exact yH7 _ _ _ hi _
   have hrow:(R3.getD i []).length=3:=by rw [hR3,hRR];exact yBS _ _ hi _ rfl
   rw [←hR3]
   have hdr:List.drop 3 (R3.getD i [])=[]:=List.drop_eq_nil_of_le (by omega)
   have hset:R3.set i [OV.p (bI ky.1),.p (bS ky.2),.os none zAz 1 []]=ovT zAz (es.take i++kE ky::es.drop i):=by
    rw [hR3,hRR,yH6 _ _ _ hi]
    simp [ovT,yH5,zK9,kE]
   generalize hG14:hwp Tryz.prog zEy=G14
   try simp (maxSteps:=2000000) only [go_sem,hR3l,hRq,hrow,hdr,List.append_nil,hset,OV.left]
   repeat with_reducible refine zAt ?_
   have hR1l:(R.set q [OV.p (bI ky.1),.p (bS ky.2),.hole]).length=ks.length:=by rw [List.length_set];exact hRl
   have hR1:∀ j,q+1≤j→j < ks.length→(R.set q [OV.p (bI ky.1),.p (bS ky.2),.hole]).getD j []=yH5 zAz (kE (ks.getD j default)):=fun j h1 h2=>by
    rw [List.getD_eq_getElem?_getD,List.getElem?_set_ne (by omega),←List.getD_eq_getElem?_getD];exact hR j (by omega) h2
   obtain ⟨R1,hR1e⟩:∃ R1,R1=R.set q [OV.p (bI ky.1),.p (bS ky.2),.hole]:=⟨_,rfl⟩
   rw [←hR1e] at hR1l hR1 ⊢
   have hi1:i < (es.take i++kE ky::es.drop i).length:=by simp;omega
   have hl1:(es.take i++kE ky::es.drop i).length≤5000:=by simp;omega
   have hn1:((es.take i++kE ky::es.drop i).getD i default).nodes.length≤5000:=by rw [yMr _ _ _ hi];simp [kE]
   have hins1:zCI (p0++(ks.take (q+1)).map fun k=>(k,(n:Int)))=(es.take i++kE ky::es.drop i).set i ⟨((es.take i++kE ky::es.drop i).getD i default).kind,((es.take i++kE ky::es.drop i).getD i default).name,((es.take i++kE ky::es.drop i).getD i default).nodes++[(n:Int)]⟩:=by
    rw [hins,yMr _ _ _ hi];exact hnew
   obtain ⟨es1,hes1⟩:∃ e,e=es.take i++kE ky::es.drop i:=⟨_,rfl⟩
   rw [←hes1] at hi1 hl1 hn1 hins1 ⊢
   rotate_left
   have t1:decide ((i:Int) < (es.length:Int))=true:=by simpa using hil
   have t2:((i:Int)==(es.length:Int))=false:=by simp;omega
   have hei:=zWz zAz es i hil
   have hB:=hB (es.getD i default)
   have hB2:=hB2 (es.getD i default)
   have hirr:=zBy ky
   rw [hk1,hirr] at hB hB2
   have hi1:=hil
   have hl1:es.length≤5000:=by omega
   have hn1:(es.getD i default).nodes.length≤5000:=by
    have:=hnode (es.getD i default) (by rw [hes,←hes];simp [hil])
    omega
   have hins1:zCI (p0++(ks.take (q+1)).map fun k=>(k,(n:Int)))=es.set i ⟨(es.getD i default).kind,(es.getD i default).name,(es.getD i default).nodes++[(n:Int)]⟩:=by
    rw [hins,yMp es i ky n hil hlt hk1]
   obtain ⟨e,he⟩:∃ e,e=es.getD i default:=⟨_,rfl⟩
   rw [←he] at hei hB hB2
   unfold yH5 zK9 at hei
   try simp (maxSteps:=2000000) only [go_sem,t1,hRq,hei,yM9]
   repeat with_reducible refine zAt ?_
   apply zAo (h2:=fun _=>hB)
   ·(simp (maxSteps:=2000000) only [go_sem];rfl)
   ·intro h;repeat' (first|exact trivial|exact h|refine And.intro ?_ ?_)
   refine goW ?_
   refine zJR (by rfl) trivial ?_
   refine goW ?_
   intro b6 b7
   try simp (maxSteps:=2000000) only [go_sem,t2,Bool.not_false,hRq,hei,yM9]
   repeat with_reducible refine zAt ?_
   apply zAo (h2:=fun _=>hB2)
   ·(simp (maxSteps:=2000000) only [go_sem];rfl)
   ·intro h;repeat' (first|exact trivial|exact h|refine And.intro ?_ ?_)
   refine goW ?_
   refine zJR (by rfl) trivial ?_
   generalize hG14:hwp Tryz.prog zEy=G14
   refine goW ?_
   have hR1l:=hRl
   have hR1:∀ j,q+1≤j→j < ks.length→R.getD j []=yH5 zAz (kE (ks.getD j default)):=fun j h1 h2=>hR j (by omega) h2
   obtain ⟨R1,hR1e⟩:∃ R1,R1=R:=⟨_,rfl⟩
   rw [←hR1e] at hR1l hR1 ⊢
   obtain ⟨es1,hes1⟩:∃ e,e=es:=⟨_,rfl⟩
   rw [←hes1] at hi1 hl1 hn1 hins1 ⊢
   all_goals
    have he1:=zWz zAz es1 i hi1
    obtain ⟨e1,hee⟩:∃ e,e=es1.getD i default:=⟨_,rfl⟩
    rw [←hee] at he1 hn1 hins1
    have hset1:(ovT zAz es1).set i [OV.p (bI e1.kind),OV.p (bS e1.name),OV.os none zAz 1 (e1.nodes.map (fun n=>[OV.p (bI n)])++[[OV.p (bI (n:Int))]])]=ovT zAz (zCI (p0++(ks.take (q+1)).map fun k=>(k,(n:Int)))):=by
     rw [hins1,←yUK];simp [yH5,zK9]
    have hgs:∀ X,((ovT zAz es1).set i X).getD i []=X:=fun X=>by simp [zEx,hi1]
    unfold yH5 zK9 at he1
    subst hG14
    try simp (maxSteps:=2000000) only [go_sem,he1,zEx,List.length_map,hgs,List.set_set,hset1]
    repeat with_reducible refine zAt ?_
    refine ⟨(q+1,R1),by simp only;omega,⟨by simp only;omega,hR1l,hR1⟩,?_⟩
    exact leA
  ·have hql:q=ks.length:=by simp at g2;omega
   rw [hql,List.take_length,←hsu]
   refine goW ?_
   refine ⟨n+1,by omega,by omega,?_⟩
   exact leA
 ·have hnl:n=d.length:=by simp at g1;omega
  have hfz:∀ (b:Option Nat) (e:Nat) (es:List Ent),(OV.os b e 3 (ovT zAz es)).frz=some (.sl 3 (zEf es)):=fun b e es=>yBs (zWA _ _)
  rw [hnl,show zCI (zDd d d.length)=zBF d from rfl]
  try simp (maxSteps:=2000000) only [go_sem,hfz]
  repeat with_reducible refine zAt ?_
  exact zAb rfl trivial (.inl rfl)
end Go.Hx
end

section
set_option maxRecDepth 100000
namespace Go.Hx
open Go.Proofs
variable [Glob]
attribute [local go_sem] zAh zAj zAg zAd ndV zAm zAn
attribute [local go_sem] reduceCtorEq Nat.reduceAdd Nat.reduceEqDiff reduceIte Nat.reduceLeDiff Nat.reduceLT Nat.reduceSub
theorem zQK (n lo hi:Int):Contract Tryz.prog zAS [.val (iv n),.val (iv lo),.val (iv hi)] {res:=.val (bv (decide (lo≤n∧n≤hi)))}:=by
 refine mkA zMW (base:=0) (fo rfl) (fun hfit=>?_)
 unfold F0 zJU
 refine goU ?_
 refine zAb rfl trivial (.inl ?_)
 congr 3
 by_cases h1:lo≤n<;>by_cases h2:n≤hi<;>simp [h1,h2]
def yXG (a b:Int):PVal:=.agg [bI a,bI b]
theorem yAi (a b:Int):Contract Tryz.prog zF1 [.val (yXG a b)] {res:=.val (iv (yMd a b))}:=by
 unfold yXG
 refine mkA zVC (base:=0) (fo rfl) (fun hfit=>?_)
 unfold F0 zLF
 refine goU ?_
 refine zAe (by repeat' constructor) (zQK a (-1048576) 1048576) ?_
 refine goW ?_
 apply zAo (h2:=fun _=>zQK b (-1048576) 1048576)
 ·(simp (maxSteps:=2000000) only [go_sem];rfl)
 ·intro h;repeat' (first|exact trivial|exact h|refine And.intro ?_ ?_)
 refine goW ?_
 refine zAa (by rfl) trivial (fun h=>?_) (fun h=>?_)
 ·refine goW ?_
  refine zAb rfl trivial (.inl ?_)
  congr 3
  unfold yMd zYs
  rw [if_neg]
  simp at h ⊢
  omega
 ·refine goW ?_
  refine zAb rfl trivial (.inl ?_)
  congr 3
  unfold yMd zYs
  rw [if_pos]
  simp at h ⊢
  omega
theorem yK9 (a b:Int):Contract Tryz.prog zKl [.val (yXG a b)] {res:=.val (iv (yMd a b))}:=by
 unfold yXG
 refine mkA yHL (base:=0) (fo rfl) (fun hfit=>?_)
 unfold F0 zVx
 refine goU ?_
 refine zAc (fun i:Nat=>[(4,.un),(10,.pv (iv i)),(11,.un),(18,.un)]) (fun i:Nat=>2-i) (fun i:Nat=>i≤2∧(1≤i→zYs a=true)∧(2≤i→zYs b=true)) (0) ?_ ⟨by omega,by omega,by omega⟩ ?_
 focus (exact leA)
 intro i hi
 obtain ⟨h1,h2,h3⟩:=hi
 refine goW ?_
 refine zAa (by rfl) trivial (fun h=>?_) (fun h=>?_)
 ·have hlt:i < 2:=by simp at h;omega
  have hcase:i=0∨i=1:=by omega
  rcases hcase with rfl|rfl
  ·try simp (maxSteps:=2000000) only [go_sem,List.getD_cons_zero,Int.toNat_natCast,Int.cast_ofNat_Int,Int.toNat_zero,PV.norm]
   repeat with_reducible refine zAt ?_
   refine zAa (by rfl) trivial (fun h9=>?_) (fun h9=>?_)
   ·refine goW ?_
    refine zAb rfl trivial (.inl ?_)
    congr 3
    unfold yMd
    rw [if_neg]
    simp [zYs] at h9 ⊢
    omega
   ·refine goW ?_
    refine ⟨1,by omega,⟨by omega,fun _=>?_,by omega⟩,?_⟩
    ·simp [zYs] at h9 ⊢;omega
    ·exact leA
  ·try simp (maxSteps:=2000000) only [go_sem,List.getD_cons_zero,List.getD_cons_succ,Int.toNat_natCast,Int.cast_ofNat_Int,Int.toNat_one,PV.norm]
   repeat with_reducible refine zAt ?_
   refine zAa (by rfl) trivial (fun h9=>?_) (fun h9=>?_)
   ·refine goW ?_
    refine zAb rfl trivial (.inl ?_)
    congr 3
    unfold yMd
    rw [if_neg]
    simp [zYs] at h9 ⊢
    omega
   ·refine goW ?_
    refine ⟨2,by omega,⟨by omega,fun _=>h2 (by omega),fun _=>?_⟩,?_⟩
    ·simp [zYs] at h9 ⊢;omega
    ·exact leA
 ·refine goW ?_
  have:i=2:=by simp at h;omega
  refine zAb rfl trivial (.inl ?_)
  congr 3
  unfold yMd
  rw [h2 (by omega),h3 (by omega)]
  rfl
end Go.Hx
end

section
set_option maxRecDepth 100000
namespace Go.Hx
open Go.Proofs
variable [Glob]
attribute [local go_sem] zAh zAj zAg zAd ndV zAm zAn zB6
end Go.Hx
end

section
set_option maxRecDepth 100000
namespace Go.Hx
open Go.Proofs
variable [Glob]
attribute [local go_sem] zAh zAj zAg zAd ndV zAm zAn zB6
end Go.Hx
end

section
set_option maxRecDepth 100000
namespace Go.Hx
open Go.Proofs
variable [Glob]
attribute [local go_sem] zAh zAj zAg zAd ndV zAm zAn zB6 List.take_nil
end Go.Hx
end

section
set_option maxRecDepth 100000
namespace Go.Hx
open Go.Proofs
variable [Glob]
attribute [local go_sem] zAh zAj zAg zAd ndV zAm zAn zB6 List.take_nil
end Go.Hx
end

section
set_option maxRecDepth 100000
namespace Go.Hx
open Go.Proofs
variable [Glob]
attribute [local go_sem] zAh zAj zAg zAd ndV zAm zAn zB6 List.take_nil zAO zAQ
end Go.Hx
end

section
set_option maxRecDepth 100000
namespace Go.Hx
open Go.Proofs
variable [Glob]
attribute [local go_sem] zAh zAj zAg zAd ndV zAm zAn zB6 List.take_nil zAD
end Go.Hx
end

section
namespace Go.Hx
open Go.Proofs
variable [Glob]
end Go.Hx
end

section
namespace Go.Hx
open Go.Proofs
variable [Glob]
abbrev zDM:=22
abbrev zCs:=122
abbrev zBa:=182
abbrev zCt:=181
abbrev zBb:=236
abbrev zG0:=180
abbrev zEA:=65
abbrev zAT:=67
abbrev zCk:=125
abbrev zBs:=127
abbrev zJc:=121
abbrev zBI:=66
abbrev zCu:=124
abbrev zCv:=126
abbrev zAx:=78
abbrev zBz:=81
abbrev zAs:=85
abbrev zN5:=oN [o4 2 0,o4 3 1,oO 4]
abbrev zN6:=oR [oJ 5 2 0 1,oB 6 5 1,oJ 7 3 0 1,oB 8 7 1,qy 9 6 8,oA 10 9,oY 10 11 2 1 1,oU 10 12 11 1,oY 10 13 3 1 1,oU 10 14 13 1,v7 10 15 12 14,oP 16 10 15,oA 17 16,oY 17 18 2 2 1,oU 17 19 18 1,oY 17 20 3 2 1,oU 17 21 20 1,v7 17 22 19 21,oP 23 17 22,oA 24 23,oY 24 25 2 3 2,qt 24 26 25 2,oY 24 27 3 3 2,qt 24 28 27 2,oG 24 true 29 (.steq false [0,0] (.t 26) (.t 28)),oP 30 24 29,oA 31 30,oY 31 32 2 5 1,oU 31 33 32 1,oY 31 34 3 5 1,oU 31 35 34 1,vQ 31 36 zBI 33 35 zAT,oP 37 31 36,oA 4 37] [5,6,7,8,9,10,11,12,13,14,15,16,17,18,19,20,21,22,23,24,25,26,27,28,29,30,31,32,33,34,35,36,37]
abbrev zXj:=jV zN5 zN6 .ret
abbrev zHO:=jZ 38 [] 38 0
abbrev xBw:List RSrc:=[.tmp 4]
theorem zN7:j0 zBs zXj zHO xBw:=by kernel_rfl
abbrev zN8:=oN [o4 2 0,o4 3 1,oO 4]
abbrev zN9:=oR [oJ 5 2 1 1,oB 6 5 1,oJ 7 3 1 1,oB 8 7 1,qC 9 zCD 6 8,oA 10 9,oY 10 11 2 0 1,oU 10 12 11 1,oY 10 13 3 0 1,oU 10 14 13 1,vQ 10 15 zCu 12 14 zCk,oP 16 10 15,oA 4 16] [5,6,7,8,9,10,11,12,13,14,15,16]
abbrev zXk:=jV zN8 zN9 .ret
abbrev zHP:=jZ 17 [] 17 0
abbrev xBx:List RSrc:=[.tmp 4]
theorem zOa:j0 zAT zXk zHP xBx:=by kernel_rfl
abbrev zLn:=oN [o4 2 0,o4 3 1,oO 4]
abbrev zLo:=oR [oJ 5 2 0 1,oB 6 5 1,oJ 7 3 0 1,oB 8 7 1,oV 9 (.strs .eql (.t 6) (.t 8)),oA 10 9,oY 10 11 2 1 1,oU 10 12 11 1,oY 10 13 3 1 1,oU 10 14 13 1,vQ 10 15 zCv 12 14 zBs,oP 16 10 15,oA 4 16] [5,6,7,8,9,10,11,12,13,14,15,16]
abbrev zPs:=jV zLn zLo .ret
abbrev zF9:=jZ 17 [] 17 0
abbrev xBy:List RSrc:=[.tmp 4]
theorem zLp:j0 zCk zPs zF9 xBy:=by kernel_rfl
abbrev zHQ:=oN [oO 6]
abbrev zHR:=oR [oA 10 0,oI 11 10,oA 12 1,oI 13 12,qL 14 11 13] [10,11,12,13]
abbrev zHS:=oN [oO 6]
abbrev zHT:=oN [oA 15 0,oI 16 15,oE 17 0]
abbrev zHU:=oN [oM 18 17 16]
abbrev zHV:=oR [oA 19 17,oK 20 2 15 17,oT 21 20 2,ox 8 0 32 2 1,oA 7 19,oL 8 0 32 0 2 21] [19,20,21]
abbrev zHW:=oR [oA 22 1,oA 23 7,oK 24 2 22 23,oT 25 24 2,ox 9 1 34 2 1,oL 9 1 34 0 2 25] [22,23,24,25]
abbrev zHX:=oR [oA 26 2,oq 27 8 0 32 0 2,oq 28 9 1 34 0 2,q9 29 26 27 28,qJ 30 29] [26,27,28,29]
abbrev zHY:=oN [oO 6]
abbrev zHZ:=oR [oF 31 17 1,oA 17 31] [31]
abbrev zG1:=oN [o9 6]
abbrev zKQ:=jX zHQ (jU zHR (jP 14 zHS)) (jU zHT (jS 0 zHU 18 1 (jW zHV zHW zHX (jP 30 zHY)) zHZ)) zG1 .ret
abbrev zEB:=jZ 32 [(32,2),(34,2)] 36 0
abbrev xBz:List RSrc:=[.tmp 6]
theorem zH0:j0 zBI zKQ zEB xBz:=by kernel_rfl
abbrev zH1:=oN [oO 6]
abbrev zH2:=oR [oA 10 0,oI 11 10,oA 12 1,oI 13 12,qL 14 11 13] [10,11,12,13]
abbrev zH3:=oN [oO 6]
abbrev zH4:=oN [oA 15 0,oI 16 15,oE 17 0]
abbrev zH5:=oN [oM 18 17 16]
abbrev zH6:=oR [oA 19 17,oK 20 2 15 17,oT 21 20 2,qH 8 0 32 6,oA 7 19,oL 8 0 32 0 2 21] [19,20,21]
abbrev zH7:=oR [oA 22 1,oA 23 7,oK 24 2 22 23,oT 25 24 2,qH 9 1 34 6,oL 9 1 34 0 2 25] [22,23,24,25]
abbrev zH8:=oR [oA 26 2,oq 27 8 0 32 0 2,oq 28 9 1 34 0 2,q9 29 26 27 28,qJ 30 29] [26,27,28,29]
abbrev zH9:=oN [oO 6]
abbrev zIa:=oR [oF 31 17 1,oA 17 31] [31]
abbrev zG2:=oN [o9 6]
abbrev zKR:=jX zH1 (jU zH2 (jP 14 zH3)) (jU zH4 (jS 0 zH5 18 1 (jW zH6 zH7 zH8 (jP 30 zH9)) zIa)) zG2 .ret
abbrev zEC:=jZ 32 [(32,2),(34,2)] 36 0
abbrev xBA:List RSrc:=[.tmp 6]
theorem zIb:j0 zCu zKR zEC xBA:=by kernel_rfl
abbrev zIc:=oN [oO 6]
abbrev zId:=oR [oA 10 0,oI 11 10,oA 12 1,oI 13 12,qL 14 11 13] [10,11,12,13]
abbrev zIe:=oN [oO 6]
abbrev zIf:=oN [oA 15 0,oI 16 15,oE 17 0]
abbrev zIg:=oN [oM 18 17 16]
abbrev zIh:=oR [oA 19 17,oK 20 6 15 17,oT 21 20 6,o5 8 0 32 0 0 0 2,oA 7 19,oL 8 0 32 0 6 21] [19,20,21]
abbrev zIi:=oR [oA 22 1,oA 23 7,oK 24 6 22 23,oT 25 24 6,o5 9 1 38 0 0 0 2,oL 9 1 38 0 6 25] [22,23,24,25]
abbrev zIj:=oR [oA 26 2,oq 27 8 0 32 0 6,oq 28 9 1 38 0 6,q9 29 26 27 28,qJ 30 29] [26,27,28,29]
abbrev zIk:=oN [oO 6]
abbrev zIl:=oR [oF 31 17 1,oA 17 31] [31]
abbrev zG3:=oN [o9 6]
abbrev zKS:=jX zIc (jU zId (jP 14 zIe)) (jU zIf (jS 0 zIg 18 1 (jW zIh zIi zIj (jP 30 zIk)) zIl)) zG3 .ret
abbrev zED:=jZ 32 [(32,6),(38,6)] 44 0
abbrev xBB:List RSrc:=[.tmp 6]
theorem zIm:j0 zCv zKS zED xBB:=by kernel_rfl
abbrev zIn:=oN [o4 3 1,qV 4 zAx 2]
abbrev zIo:=oN [qV 5 zAx 2]
abbrev zIp:=oN [oA 8 0,oI 9 8,oE 10 0]
abbrev zIq:=oN [oM 11 10 9]
abbrev zIr:HCode:=.reg [oK 12 2 8 10,oT 13 12 2,ox 7 0 24 2 1,oL 7 0 24 0 2 13] false [.frz 0 24 2,.forget [12,13]]
abbrev zIs:=oR [oA 14 5,vb 15 zBa 3 7,qC 16 zB1 14 15,qJ 17 16] [14,15,16]
abbrev zIt:=oR [ou 18 5,oT 19 7 2,qK 20 2 19,oy 21 zAx 2 18 20,ou 5 21] [18,19,20,21]
abbrev zIu:=oR [oF 22 10 1,oA 10 22] [22]
abbrev zIv:=oR [ou 23 5,ou 4 23] [23]
abbrev zKT:=jX zIn zIo (jU zIp (jS 0 zIq 11 1 (jV zIr zIs (jQ 17 zIt .skip)) zIu)) zIv .ret
abbrev zEE:=jZ 24 [(24,2)] 26 0
abbrev xBC:List RSrc:=[.tmp 4]
theorem zIw:j0 zCs zKT zEE xBC:=by kernel_rfl
abbrev zGg:=oN [o4 3 0,oO 4]
abbrev zGh:=oR [oB 5 1 1,oT 6 2 2,oT 7 3 2,q9 8 5 6 7,oA 4 8] [5,6,7,8]
abbrev zJd:=jV zGg zGh .ret
abbrev zDN:=jZ 9 [] 9 0
abbrev xBD:List RSrc:=[.tmp 4]
theorem zGi:j0 zBa zJd zDN xBD:=by kernel_rfl
abbrev zIx:=oN [o4 3 1,qV 4 zAs 6]
abbrev zIy:=oN [qV 5 zAs 6]
abbrev zIz:=oN [oA 8 0,oI 9 8,oE 10 0]
abbrev zIA:=oN [oM 11 10 9]
abbrev zIB:HCode:=.reg [oK 12 6 8 10,oT 13 12 6,o5 7 0 24 0 0 0 2,oL 7 0 24 0 6 13] false [.frz 0 24 6,.forget [12,13]]
abbrev zIC:=oR [oA 14 5,vb 15 zBb 3 7,qC 16 zB2 14 15,qJ 17 16] [14,15,16]
abbrev zID:=oR [ou 18 5,oT 19 7 6,qK 20 6 19,oy 21 zAs 6 18 20,ou 5 21] [18,19,20,21]
abbrev zIE:=oR [oF 22 10 1,oA 10 22] [22]
abbrev zIF:=oR [ou 23 5,ou 4 23] [23]
abbrev zKU:=jX zIx zIy (jU zIz (jS 0 zIA 11 1 (jV zIB zIC (jQ 17 zID .skip)) zIE)) zIF .ret
abbrev zEF:=jZ 24 [(24,6)] 30 0
abbrev xBE:List RSrc:=[.tmp 4]
theorem zIG:j0 zCt zKU zEF xBE:=by kernel_rfl
abbrev zGj:=oN [o4 3 0,oO 4]
abbrev zGk:=oR [oB 5 1 1,oT 6 2 6,oT 7 3 6,q9 8 5 6 7,oA 4 8] [5,6,7,8]
abbrev zJe:=jV zGj zGk .ret
abbrev zDO:=jZ 9 [] 9 0
abbrev xBF:List RSrc:=[.tmp 4]
theorem zGl:j0 zBb zJe zDO xBF:=by kernel_rfl
abbrev yAj:=oN [o4 1 0,jC 2]
abbrev yAk:=oR [oJ 3 1 5 1,oB 4 3 1,oI 5 4,om 6 5 1,oA 7 6,oe 7 8 1 5 1,o7 7 9 8 1,oG 7 false 10 (.idxA 2 (.t 9) (.c (iv 0))),oe 7 11 10 0 1,o7 7 12 11 1,oz 7 13 12,vi 7 14 13 1,oS 15 7 14] [3,4,5,6,7,8,9,10,11,12,13,14]
abbrev yAl:=oN [jC 2]
abbrev yAm:=oR [oJ 16 1 5 1,oB 17 16 1,vR 18 2 17 0,oJ 19 18 0 1,oB 20 19 1,vR 21 2 20 0,oA 2 21] [16,17,18,19,20,21]
abbrev yLo:=jW yAj (jU yAk (jP 15 yAl)) yAm .ret
abbrev zDA:=jZ 22 [] 22 0
abbrev xBG:List RSrc:=[.tmp 2]
theorem zDP:j0 zG0 yLo zDA xBG:=by kernel_rfl
abbrev yFF:=oN [o4 1 0,qH 2 0 136 6]
abbrev yFG:=oR [oJ 7 1 0 1,oB 8 7 1,vS 9 6 0 1 8,qH 3 1 138 6,oL 3 1 138 0 2 9] [7,8,9]
abbrev yFH:=oR [oJ 10 1 1 1,oB 11 10 1,oI 12 11,oE 13 0] [10]
abbrev yFI:=oN [oM 14 13 12]
abbrev yFJ:=oR [oA 15 13,oK 16 6 11 13,oT 17 16 6,o5 5 2 140 0 0 0 2,oA 4 15,oL 5 2 140 0 6 17] [15,16,17]
abbrev yFK:=oR [oZ 18 5 5,oh 19 18 2 140 5 1,oo 20 zEA 19,oZ 21 5 5,oL 21 2 140 5 1 20] [18,19,20,21]
abbrev yFL:=oR [oq 22 5 2 140 0 6,oo 23 zG0 22,oA 6 23] [22,23]
abbrev yFM:=oR [oA 25 6,oV 26 (.pnl false true (.t 25)),oA 24 26] [25,26]
abbrev zOb:=oR [oZ 28 5 0,oh 29 28 2 140 0 1,ol 30 29 13,oA 31 30,oc 31 32 6,jN 31 33 32,oY 31 34 33 0 1,oU 31 35 34 1,qu 31 36 35,oP 37 31 36,oA 38 37,oc 38 39 6,jN 38 40 39,oY 38 41 40 1 1,oU 38 42 41 1,qh 38 43 42,qc 38 44 43 1,oP 45 38 44,oA 46 45,oc 46 47 6,jN 46 48 47,oY 46 49 48 1 1,oU 46 50 49 1,oG 46 true 51 (.idxA 6 (.t 50) (.c (iv 0))),oY 46 52 51 0 1,oU 46 53 52 1,qc 46 54 53 13,oP 55 46 54,oA 27 55] [28,29,30,31,32,33,34,35,36,37,38,39,40,41,42,43,44,45,46,47,48,49,50,51,52,53,54,55]
abbrev yFN:=oR [oA 56 6,oV 57 (.nilck (.t 56)),oJ 58 57 1 1,oB 59 58 1,vR 60 6 59 0,oJ 61 60 5 1,oB 62 61 1,oV 63 (.bld [.v (.int .i64 0),.v (mkS []),.v (mkS []),.v (.int .i64 0),.v (.int .i64 0),.nl 2] [(0,1,.c (iv 14)),(5,1,.t 62)]),oL 5 2 140 0 6 63] [56,57,58,59,60,61,62,63]
abbrev zLO:=oQ [oW 0 65 5 0,qB 1 66 65 2 140 0 1,oD 2 false (oV 67 (.ints .eql (.t 66) (.c (iv 14)))),oH 3 68 67,qG 4 68 69 6,oD 5 false (oG 68 true 70 (.nilck (.t 69))),ot 6 68 71 70 0 1,oi 7 68 72 71 1,oD 8 false (oG 68 true 73 (.strs .eql (.t 72) (.c (sv [])))),qG 9 68 74 73,vX 10 74 75 3 0,vT 11 74 76 75 1 138 0 1,oD 12 false (oG 74 false 77 (.strs .eql (.t 76) (.c (sv [])))),jI 13 68 78 74 77,qG 14 68 79 78,od 15 79 80 6,oD 16 false (oG 79 false 81 (.nilck (.t 80))),qk 17 79 82 81 0 1,q8 18 79 83 82 1,vX 19 79 84 3 0,vT 20 79 85 84 1 138 0 1,oD 21 false (oG 79 false 86 (.strs .eql (.t 83) (.t 85))),jI 22 68 87 79 86,qF 23 88 68 87,oH 24 89 88,oD 25 false (oG 89 true 90 (.fldP (.t 3) 1)),oD 26 false (oG 89 true 91 (.ldB (.t 90) 1 138 1 1 false)),qo 27 89 92 91,qG 28 89 93 6,oD 29 false (oG 89 true 94 (.nilck (.t 93))),ot 30 89 95 94 1 1,oi 31 89 96 95 1,qo 32 89 97 96,oD 33 false (oG 89 true 98 (.ints .add (.t 92) (.t 97))),ot 34 89 99 1 1 1,oi 35 89 100 99 1,qG 36 89 101 4,oD 37 false (oG 89 true 102 (.ints .add (.t 101) (.c (iv 1)))),oD 38 false (oG 89 true 103 (.slr 6 (.t 100) (some (.t 102)) none)),qo 39 89 104 103,oD 40 false (oG 89 true 105 (.ints .add (.t 98) (.t 104))),oD 41 false (oG 89 true 106 (.ints .leq (.t 105) (.c (iv 6)))),qF 42 107 89 106,oH 43 64 107] [65,66,67,68,69,70,71,72,73,74,75,76,77,78,79,80,81,82,83,84,85,86,87,88,89,90,91,92,93,94,95,96,97,98,99,100,101,102,103,104,105,106,107]
abbrev yAn:=oR [oZ 108 3 0,oh 109 108 1 138 0 1,oV 110 (.strs .eql (.t 109) (.c (sv [])))] [108,109]
abbrev yAo:=oR [oA 111 6,oV 112 (.nilck (.t 111)),oJ 113 112 0 1,oB 114 113 1,oZ 115 3 0,oL 115 1 138 0 1 114] [111,112,113,114,115]
abbrev yAp:=oQ [oW 0 116 3 1,vM 1 117 116 1 138 1 zAs 6,oH 2 118 6,vu 3 119 118,o8 4 120 119 1 1,oX 5 121 120 1,qg 6 122 zAs 6 117 121,oW 7 123 3 1,vF 8 123 1 138 1 122] [116,117,118,119,120,121,122,123]
abbrev yAq:=oR [oZ 124 3 1,vr 125 124 1 138 1 zAs 6,oq 126 5 2 140 0 6,qK 127 6 126,oy 128 zAs 6 125 127,oZ 129 3 1,v8 129 1 138 1 128] [124,125,126,127,128,129]
abbrev yAr:=oR [oF 130 13 1,oA 13 130] [130]
abbrev yAs:HCode:=.reg [oZ 131 3 1,oh 132 131 1 138 1 1,oC 133 zCt [(.t 132,.v),(.f zBs,.v)],oZ 134 3 1,oL 134 1 138 1 1 133] false [.frz 1 138 2,.forget [131,132,133,134]]
abbrev yAt:=oR [oT 135 3 2,oL 2 0 136 0 2 135] [135]
abbrev yOG:=jX yFF yFG (jU yFH (jS 0 yFI 14 1 (jX yFJ yFK yFL (.block 2 (jU yFM (jQ 24 .skip (jU zOb (jQ 27 yFN (jU zLO (jQ 64 (jV (jU yAn (jQ 110 yAo .skip)) yAp (.exit 1)) .skip))))))) yAq) yAr)) yAs (jU yAt .ret)
abbrev zQL:=jZ 136 [(136,2),(138,2),(140,6)] 146 0
abbrev xBH:List RSrc:=[.cellB 2 0 136 0 2 true]
theorem yFO:j0 zJc yOG zQL xBH:=by kernel_rfl
abbrev yFP:=oN [qV 2 zAx 2]
abbrev yFQ:=oN [qV 3 zAx 2]
abbrev yFR:=oN [oA 9 0,oI 10 9,oE 11 0]
abbrev yFS:=oN [oM 12 11 10]
abbrev yFT:=oR [oK 13 2 9 11,oT 14 13 2,ox 5 0 41 2 1,oL 5 0 41 0 2 14] [13,14]
abbrev yFU:=oR [oZ 15 5 1,oh 16 15 0 41 1 1,oo 17 zDZ 16,vk 18 2 1 1 1 17,ox 6 1 43 2 1,oL 6 1 43 0 2 18] [15,16,17,18]
abbrev yFV:=oR [oZ 19 5 0,oh 20 19 0 41 0 1,oI 21 20,oE 22 0] [19]
abbrev yFW:=oN [oM 23 22 21]
abbrev yFX:=oR [oK 24 2 20 22,oT 25 24 2,qH 8 2 45 6,oL 8 2 45 0 2 25] [24,25]
abbrev yFY:=oQ [oW 0 26 6 0,vM 1 27 26 1 43 0 zBz 2,oD 2 false (oV 28 (.ldB (.t 8) 2 45 0 2 true)),qb 3 29 zJc 28,qe 4 30 2 29,qg 5 31 zBz 2 27 30,oW 6 32 6 0,vF 7 32 1 43 0 31] [26,27,28,29,30,31,32]
abbrev yAu:=oR [oF 33 22 1,oA 22 33] [33]
abbrev yAv:HCode:=.regG [.ffr 43 1 43] [ou 34 3,oq 35 6 1 43 0 2,qK 36 2 35,oy 37 zAx 2 34 36,ou 3 37] [.forget [34,35,36,37]]
abbrev yAw:=oR [oF 38 11 1,oA 11 38] [38]
abbrev yAx:=oR [oA 39 3,oC 40 zCs [(.t 39,.v),(.f zAT,.v)],ou 2 40] [39,40]
abbrev yOH:=jX yFP yFQ (jU yFR (jS 0 yFS 12 1 (jW yFT yFU (jU yFV (jS 2 yFW 23 3 (jU yFX yFY) yAu)) yAv) yAw)) yAx .ret
abbrev zQM:=jZ 41 [(41,2),(43,2),(45,2)] 47 0
abbrev xBI:List RSrc:=[.tmp 2]
theorem yFZ:j0 zEA yOH zQM xBI:=by kernel_rfl
abbrev yAy:=oN [vH 2 2,oE 3 0]
abbrev yAz:=oR [oA 6 0,oo 7 zI0 6,oA 4 7] [6,7]
abbrev yAA:=oR [oA 8 4,om 9 8 0] [8]
abbrev yAB:=oR [oA 10 4,vH 2 2,oA 3 10] [10]
abbrev yAC:=oR [oA 11 0,oo 12 zEA 11,oA 5 12] [11,12]
abbrev yAD:=oR [oA 13 0,oA 14 5,oC 15 zBI [(.t 13,.v),(.t 14,.v),(.f zAT,.v)]] [13,14]
abbrev yAE:=oR [oA 16 5,oA 2 16,oE 3 0] [16]
abbrev yAF:=oR [oA 17 5,oA 0 17] [17]
abbrev yLp:=jV yAy (jV yAz yAA (jP 9 yAB)) (jT 0 (.block 1 (jV yAC (jU yAD (jP 15 yAE)) yAF)))
abbrev zOc:=jZ 18 [] 18 0
abbrev xBJ:List RSrc:=[.tmp 2,.tmp 3]
theorem yAG:j0 zDM yLp zOc xBJ:=by kernel_rfl
end Go.Hx
end

section
namespace Go.Hx
open Go.Proofs
variable [Glob]
abbrev zEG:=98
abbrev zBB:=42
abbrev zG4:=43
abbrev zBK:=26
abbrev zCQ:=70
abbrev zFl:=129
abbrev zCR:=183
abbrev zGa:=145
abbrev zJj:=194
abbrev yF7:=oN [qH 2 0 22 6,oO 3]
abbrev yF8:=oR [oA 4 0,oI 5 4,om 6 5 1,oA 7 6,o6 7 8 0,oG 7 false 9 (.idxA 2 (.t 8) (.c (iv 0))),oe 7 10 9 0 1,o7 7 11 10 1,oz 7 12 11,vi 7 13 12 1,oS 14 7 13] [4,5,6,7,8,9,10,11,12,13]
abbrev yF9:=oR [oV 15 (.bld [.v (mkS []),.nl 6] []),oL 2 0 22 0 2 15,oO 3] [15]
abbrev yGa:=oR [oA 16 0,vR 17 2 16 0,oJ 18 17 0 1,oB 19 18 1,vR 20 2 19 0,oT 21 20 2,oL 2 0 22 0 2 21,o9 3] [16,17,18,19,20,21]
abbrev yOP:=jW yF7 (jU yF8 (jP 14 yF9)) yGa .ret
abbrev zEe:=jZ 22 [(22,2)] 24 0
abbrev xBK:List RSrc:=[.cellB 2 0 22 0 2 true,.tmp 3]
theorem zEH:j0 zJj yOP zEe xBK:=by kernel_rfl
abbrev zXs:=oN [o4 1 0,qH 2 0 170 6]
abbrev zXt:=oR [oJ 13 1 0 1,oB 14 13 1,vS 15 6 0 1 14,qH 3 1 172 6,oL 3 1 172 0 2 15] [13,14,15]
abbrev zXu:=oN [oE 4 0]
abbrev zXv:=oR [oA 16 4,oJ 17 1 1 1,oB 18 17 1,oI 19 18,oM 20 16 19] [16,17,18,19]
abbrev zXw:HCode:=.reg [oJ 23 1 1 1,oB 24 23 1,oA 25 4,oK 26 6 24 25,oT 27 26 6,o5 5 2 174 0 0 0 2,oL 5 2 174 0 6 27] false [.frz 2 174 6,.forget [23,24,25,26,27]]
abbrev zXx:HCode:=.reg [oJ 29 5 5 1,oB 30 29 1,oo 31 zJj 30,oA 28 31,qD 32 28 0,qD 33 28 1,qH 6 3 180 6,oL 6 3 180 0 2 32,oA 7 33] false [.frz 3 180 2,.forget [28,29,30,31,32,33]]
abbrev zXy:=oR [oZ 34 3 1,oh 35 34 1 172 1 1,oI 36 35,oJ 37 6 1 1,oB 38 37 1,oI 39 38,qp 40 36 39,oJ 41 1 1 1,oB 42 41 1,oI 43 42,qp 44 40 43,oA 45 4,oV 46 (.ints .sub (.t 44) (.t 45)),vU 47 46 1,oV 48 (.ints .leq (.t 47) (.c (iv 6))),oA 8 48] [34,35,36,37,38,39,40,41,42,43,44,45,46,47,48]
abbrev zGb:=oR [oA 56 7,oA 57 56,oY 57 58 5 0 1,oU 57 59 58 1,qc 57 60 59 13,oP 61 57 60,oA 62 61,oY 62 63 6 0 1,oU 62 64 63 1,qu 62 65 64,oP 66 62 65,oA 67 66,oY 67 68 6 1 1,oU 67 69 68 1,qh 67 70 69,qc 67 71 70 1,oP 72 67 71,oA 73 72,oY 73 74 6 1 1,oU 73 75 74 1,oG 73 true 76 (.idxA 6 (.t 75) (.c (iv 0))),oY 73 77 76 0 1,oU 73 78 77 1,qc 73 79 78 13,oP 80 73 79,oA 55 80] [56,57,58,59,60,61,62,63,64,65,66,67,68,69,70,71,72,73,74,75,76,77,78,79,80]
abbrev zXz:=oQ [oW 0 81 3 1,vM 1 82 81 1 172 1 zAs 6,o8 2 83 6 1 1,oX 3 84 83 1,oD 4 false (oV 85 (.idxA 6 (.t 84) (.c (iv 0)))),o8 5 86 85 5 1,oX 6 87 86 1,oD 7 false (oV 88 (.bld [.v (.int .i64 0),.v (mkS []),.v (mkS []),.v (.int .i64 0),.v (.int .i64 0),.nl 2] [(0,1,.c (iv 14)),(5,1,.t 87)])),qe 8 89 6 88,qg 9 90 zAs 6 82 89,oW 10 91 3 1,vF 11 91 1 172 1 90] [81,82,83,84,85,86,87,88,89,90,91]
abbrev zGc:=oR [oA 93 7,oA 94 93,oY 94 95 5 0 1,oU 94 96 95 1,qc 94 97 96 14,oP 98 94 97,oA 99 98,oY 99 100 6 0 1,oU 99 101 100 1,qu 99 102 101,oc 99 103 102,oG 103 false 104 (.fldP (.t 3) 0),oG 103 false 105 (.ldB (.t 104) 1 172 0 1 false),oG 103 false 106 (.strs .eql (.t 105) (.c (sv []))),vB 99 107 103 106,oc 99 108 107,oe 108 109 6 0 1,o7 108 110 109 1,oG 108 false 111 (.fldP (.t 3) 0),oG 108 false 112 (.ldB (.t 111) 1 172 0 1 false),oG 108 false 113 (.strs .eql (.t 110) (.t 112)),vB 99 114 108 113,oP 115 99 114,oA 116 115,oc 116 117 8,oP 118 116 117,oA 92 118] [93,94,95,96,97,98,99,100,101,102,103,104,105,106,107,108,109,110,111,112,113,114,115,116,117,118]
abbrev zSa:=oR [oZ 119 3 0,oh 120 119 1 172 0 1,oV 121 (.strs .eql (.t 120) (.c (sv [])))] [119,120]
abbrev zSb:=oR [oJ 122 6 0 1,oB 123 122 1,oZ 124 3 0,oL 124 1 172 0 1 123] [122,123,124]
abbrev zSc:=oR [oZ 125 3 1,vr 126 125 1 172 1 zAs 6,oJ 127 6 1 1,oB 128 127 1,oy 129 zAs 6 126 128,oZ 130 3 1,v8 130 1 172 1 129] [125,126,127,128,129,130]
abbrev zSd:=oR [oZ 49 3 1,vr 50 49 1 172 1 zAs 6,oT 51 5 6,qK 52 6 51,oy 53 zAs 6 50 52,oZ 54 3 1,v8 54 1 172 1 53] [49,50,51,52,53,54]
abbrev zSe:=oR [oA 21 4,oF 22 21 1,oA 4 22] [21,22]
abbrev zSf:=oN [qV 9 zAs 6]
abbrev zSg:=oN [oE 10 0]
abbrev zSh:=oR [oA 131 10,oZ 132 3 1,oh 133 132 1 172 1 1,oI 134 133,oM 135 131 134] [131,132,133,134]
abbrev zSi:=oN [oO 11]
abbrev zSj:=oN [oE 12 0]
abbrev zSk:=oR [oA 138 12,oA 139 10,oM 140 138 139] [138,139]
abbrev zSl:=oQ [oH 0 143 11,oH 1 144 143,vX 2 144 145 3 1,vT 3 144 146 145 1 172 1 1,od 4 144 147 12,qI 5 144 148 6 146 147,vm 6 144 149 148 6,vX 7 144 150 3 1,vT 8 144 151 150 1 172 1 1,od 9 144 152 10,qI 10 144 153 6 151 152,vm 11 144 154 153 6,qv 12 144 155 zCR 149 154,qM 13 156 144 155,oH 14 11 156] [143,144,145,146,147,148,149,150,151,152,153,154,155,156]
abbrev zSm:=oR [oA 141 12,oF 142 141 1,oA 12 142] [141,142]
abbrev zSn:=oR [oA 157 11,qJ 158 157] [157]
abbrev zSo:=oR [ou 159 9,oZ 160 3 1,oh 161 160 1 172 1 1,oA 162 10,oK 163 6 161 162,oT 164 163 6,qK 165 6 164,oy 166 zAs 6 159 165,ou 9 166] [159,160,161,162,163,164,165,166]
abbrev zSp:=oR [oA 136 10,oF 137 136 1,oA 10 137] [136,137]
abbrev zSq:HCode:=.reg [ou 167 9,oZ 168 3 1,v8 168 1 172 1 167] false [.frz 1 172 2,.forget [167,168]]
abbrev zSr:=oR [oT 169 3 2,oL 2 0 170 0 2 169] [169]
abbrev yIV:=jX zXs zXt (jU zXu (jR 0 zXv 20 1 (jW zXw zXx zXy (.block 2 (jU zGb (jQ 55 zXz (jU zGc (jQ 92 (jU (jU zSa (jQ 121 zSb .skip)) zSc) zSd)))))) zSe)) zSf (jW (jU zSg (jR 3 zSh 135 4 (jW zSi (jU zSj (jR 5 zSk 140 6 zSl zSm)) zSn (jQ 158 zSo .skip)) zSp)) zSq zSr .ret)
abbrev zLP:=jZ 170 [(170,2),(172,2),(174,6),(180,2)] 182 0
abbrev xBL:List RSrc:=[.cellB 2 0 170 0 2 true]
theorem zXA:j0 zGa yIV zLP xBL:=by kernel_rfl
abbrev yAJ:=oN [qV 2 zAx 2]
abbrev yAK:HCode:=.reg [oA 9 0,oo 10 zBB 9,qd 0 10] false [.forget [9,10],.pin 0 0 0 []]
abbrev yAL:=oN [qV 3 zAx 2]
abbrev yAM:=oN [oE 4 0]
abbrev yAN:=oR [oA 11 4,oA 12 0,oI 13 12,oM 14 11 13] [11,12,13]
abbrev yAO:=oN [oE 5 0]
abbrev yAP:=oR [oA 17 5,oA 18 0,oA 19 4,oK 20 2 18 19,oZ 21 20 0,⟨none,.vlh 22 (.t 21) 0 0 0 []⟩,oI 23 22,oM 24 17 23] [17,18,19,20,21,22,23]
abbrev yAQ:HCode:=.reg [oE 6 0] false [.pin 0 0 0 [(.t 4,0)],.pin 0 0 0 [(.t 4,0),(.t 5,1)]]
abbrev yAR:=oR [oA 27 6,oA 28 0,oA 29 4,oK 30 2 28 29,oZ 31 30 0,⟨none,.vlh 32 (.t 31) 0 0 0 []⟩,oA 33 5,oK 34 2 32 33,oZ 35 34 1,⟨none,.vlh 36 (.t 35) 0 0 0 [(.t 4,0)]⟩,oI 37 36,oM 38 27 37] [27,28,29,30,31,32,33,34,35,36,37]
abbrev yAS:=oQ [oH 0 41 0,oH 1 42 4,o3 2 43 2 41 42,oW 3 44 43 0,ve 4 45 44 0 0 0,oH 5 46 5,o3 6 47 2 45 46,oW 7 48 47 1,oD 8 false ⟨none,.vlh 49 (.t 48) 0 0 0 [(.t 4,0)]⟩,oH 9 50 6,oH 10 51 0,oH 11 52 4,o3 12 53 2 51 52,oW 13 54 53 0,ve 14 55 54 0 0 0,oH 15 56 5,o3 16 57 2 55 56,oW 17 58 57 1,oD 18 false ⟨none,.vlh 59 (.t 58) 0 0 0 [(.t 4,0)]⟩,oH 19 60 6,o3 20 61 6 59 60,oW 21 62 61 5,oD 22 false ⟨none,.vlp 63 (.t 62) 0 0 0 [(.t 4,0),(.t 5,1)] 1 false⟩,qb 23 64 zEG 63,o3 24 65 6 49 50,oW 25 66 65 5,oD 26 false ⟨none,.vse (.t 66) 0 0 0 [(.t 4,0),(.t 5,1)] 1 (.t 64)⟩] [41,42,43,44,45,46,47,48,49,50,51,52,53,54,55,56,57,58,59,60,61,62,63,64,65,66]
abbrev zXB:=oR [oA 39 6,oF 40 39 1,oA 6 40] [39,40]
abbrev zXC:HCode:=.drgG [.vfp 0 0 0 [(.t 4,0),(.t 5,1)]] [oH 0 67 0,oH 1 68 4,o3 2 69 2 67 68,oW 3 70 69 0,ve 4 71 70 0 0 0,oH 5 72 5,oH 6 73 0,oH 7 74 4,o3 8 75 2 73 74,oW 9 76 75 0,ve 10 77 76 0 0 0,oH 11 78 5,o3 12 79 2 77 78,oD 13 false ⟨none,.vlp 80 (.t 79) 0 0 0 [(.t 4,0)] 2 true⟩,qb 14 81 zGa 80,o3 15 82 2 71 72,oD 16 false ⟨none,.vse (.t 82) 0 0 0 [(.t 4,0)] 2 (.t 81)⟩] [.forget [67,68,69,70,71,72,73,74,75,76,77,78,79,80,81,82],.unp 0 0 0 [(.t 4,0)]]
abbrev zXD:=oR [oA 25 5,oF 26 25 1,oA 5 26] [25,26]
abbrev zXE:HCode:=.reg [oO 7] false [.vfp 0 0 0 [(.t 4,0)]]
abbrev zXF:=oN [oE 8 0]
abbrev zXG:=oR [oA 83 8,oA 84 3,oI 85 84,oM 86 83 85] [83,84,85]
abbrev zXH:=oQ [oH 0 89 7,oH 1 90 89,od 2 90 91 3,od 3 90 92 8,qI 4 90 93 2 91 92,vm 5 90 94 93 2,od 6 90 95 0,od 7 90 96 4,qI 8 90 97 2 95 96,vn 9 90 98 97 0 0 0 2,qv 10 90 99 zCQ 94 98,qM 11 100 90 99,oH 12 7 100] [89,90,91,92,93,94,95,96,97,98,99,100]
abbrev zXI:=oR [oA 87 8,oF 88 87 1,oA 8 88] [87,88]
abbrev zXJ:=oR [oA 101 7,qJ 102 101] [101]
abbrev zXK:=oR [ou 103 3,oA 104 0,oA 105 4,oK 106 2 104 105,⟨none,.vlp 107 (.t 106) 0 0 0 [] 2 true⟩,qK 108 2 107,oy 109 zAx 2 103 108,ou 3 109] [103,104,105,106,107,108,109]
abbrev zXL:=oR [oA 15 4,oF 16 15 1,oA 4 16] [15,16]
abbrev zXM:=oR [oA 110 3,oo 111 zBB 110,ou 2 111] [110,111]
abbrev yLy:=jX yAJ yAK yAL (jU yAM (jR 0 yAN 14 1 (jX (jU yAO (jR 2 yAP 24 3 (jU (jU yAQ (jR 4 yAR 38 5 yAS zXB)) zXC) zXD)) zXE (jU zXF (jR 6 zXG 86 7 zXH zXI)) zXJ (jQ 102 zXK .skip)) zXL)) (jU zXM .ret)
abbrev zOn:=jZ 112 [] 112 0
abbrev xBM:List RSrc:=[.tmp 2]
theorem yAT:j0 zEG yLy zOn xBM:=by kernel_rfl
abbrev yAU:=oN [qV 2 zAx 2]
abbrev yAV:=oR [oA 4 0,oo 5 zEG 4,ou 3 5] [4,5]
abbrev yAW:=oR [oA 6 0,oA 7 3,qC 8 zBK 6 7] [6,7]
abbrev yAX:=oR [ou 9 3,ou 2 9] [9]
abbrev yAY:=oR [oA 10 3,oA 0 10] [10]
abbrev yLz:=jU yAU (jT 0 (.block 1 (jV yAV (jU yAW (jP 8 yAX)) yAY)))
abbrev zOo:=jZ 11 [] 11 0
abbrev xBN:List RSrc:=[.tmp 2]
theorem yAZ:j0 zG4 yLz zOo xBN:=by kernel_rfl
abbrev zSs:=oN [o4 2 0,o4 3 1,oO 4]
abbrev zSt:=oR [oJ 5 2 0 1,oB 6 5 1,oJ 7 3 0 1,oB 8 7 1,qy 9 6 8,oA 10 9,oY 10 11 2 1 1,oU 10 12 11 1,oY 10 13 3 1 1,oU 10 14 13 1,v7 10 15 12 14,oP 16 10 15,oA 17 16,oY 17 18 2 2 1,oU 17 19 18 1,oY 17 20 3 2 1,oU 17 21 20 1,v7 17 22 19 21,oP 23 17 22,oA 24 23,oY 24 25 2 3 2,qt 24 26 25 2,oY 24 27 3 3 2,qt 24 28 27 2,oG 24 true 29 (.steq false [0,0] (.t 26) (.t 28)),oP 30 24 29,oA 31 30,oY 31 32 2 5 1,oU 31 33 32 1,oY 31 34 3 5 1,oU 31 35 34 1,qQ 31 36 zBK 33 35,oP 37 31 36,oA 4 37] [5,6,7,8,9,10,11,12,13,14,15,16,17,18,19,20,21,22,23,24,25,26,27,28,29,30,31,32,33,34,35,36,37]
abbrev yGb:=jV zSs zSt .ret
abbrev zKW:=jZ 38 [] 38 0
abbrev xBO:List RSrc:=[.tmp 4]
theorem zSu:j0 zCR yGb zKW xBO:=by kernel_rfl
abbrev zSv:=oN [o4 2 0,o4 3 1,oO 4]
abbrev zSw:=oR [oJ 6 2 0 1,oB 7 6 1,oJ 8 3 0 1,oB 9 8 1,oV 10 (.strs .neq (.t 7) (.t 9)),oA 11 10,oe 11 12 2 1 1,o7 11 13 12 1,oz 11 14 13,oe 11 15 3 1 1,o7 11 16 15 1,oz 11 17 16,vW 11 18 14 17,oS 19 11 18] [6,7,8,9,10,11,12,13,14,15,16,17,18]
abbrev zSx:=oN [oO 4]
abbrev zSy:=oN [oE 5 0]
abbrev zSz:=oR [oA 20 5,oJ 21 2 1 1,oB 22 21 1,oI 23 22,oM 24 20 23] [20,21,22,23]
abbrev zSA:=oQ [o8 0 27 2 1 1,oX 1 28 27 1,oH 2 29 5,o3 3 30 6 28 29,oa 4 31 30 6,o8 5 32 3 1 1,oX 6 33 32 1,oH 7 34 5,o3 8 35 6 33 34,oa 9 36 35 6,qO 10 37 zCR 31 36,qw 11 38 37] [27,28,29,30,31,32,33,34,35,36,37]
abbrev zSB:=oN [oO 4]
abbrev zSC:=oR [oA 25 5,oF 26 25 1,oA 5 26] [25,26]
abbrev zSD:=oN [o9 4]
abbrev yGc:=jX zSv (jU zSw (jP 19 zSx)) (jU zSy (jR 0 zSz 24 1 (jU zSA (jP 38 zSB)) zSC)) zSD .ret
abbrev zKX:=jZ 39 [] 39 0
abbrev xBP:List RSrc:=[.tmp 4]
theorem zSE:j0 zFl yGc zKX xBP:=by kernel_rfl
abbrev zSF:=oN [o4 2 0,o4 3 1,oO 4]
abbrev zSG:=oR [oJ 6 2 0 1,oB 7 6 1,oI 8 7,oJ 9 3 0 1,oB 10 9 1,oI 11 10,qL 12 8 11,oA 13 12,oe 13 14 2 1 1,o7 13 15 14 1,oe 13 16 3 1 1,o7 13 17 16 1,⟨some (13,false),.call (some 18) zEm [(.t 15,.v),(.t 17,.v)]⟩,qi 13 19 18,oS 20 13 19] [6,7,8,9,10,11,12,13,14,15,16,17,18,19]
abbrev zSH:=oN [oO 4]
abbrev zSI:=oN [oE 5 0]
abbrev zSJ:=oR [oA 21 5,oJ 22 2 0 1,oB 23 22 1,oI 24 23,oM 25 21 24] [21,22,23,24]
abbrev zSK:=oQ [o8 0 28 2 0 1,oX 1 29 28 1,oH 2 30 5,o3 3 31 2 29 30,oa 4 32 31 2,o8 5 33 3 0 1,oX 6 34 33 1,oH 7 35 5,o3 8 36 2 34 35,oa 9 37 36 2,qO 10 38 zFl 32 37,qw 11 39 38] [28,29,30,31,32,33,34,35,36,37,38]
abbrev zSL:=oN [oO 4]
abbrev zSM:=oR [oA 26 5,oF 27 26 1,oA 5 27] [26,27]
abbrev zSN:=oN [o9 4]
abbrev yGd:=jX zSF (jU zSG (jP 20 zSH)) (jU zSI (jR 0 zSJ 25 1 (jU zSK (jP 39 zSL)) zSM)) zSN .ret
abbrev zKY:=jZ 40 [] 40 0
abbrev xBQ:List RSrc:=[.tmp 4]
theorem zSO:j0 zCQ yGd zKY xBQ:=by kernel_rfl
abbrev zSP:=oN [oO 4]
abbrev zSQ:=oR [oA 6 0,oI 7 6,oA 8 1,oI 9 8,qL 10 7 9] [6,7,8,9]
abbrev zSR:=oN [oO 4]
abbrev zSS:=oN [oE 5 0]
abbrev zST:=oR [oA 11 5,oA 12 0,oI 13 12,oM 14 11 13] [11,12,13]
abbrev zSU:=oQ [oH 0 17 0,oH 1 18 5,o3 2 19 2 17 18,oa 3 20 19 2,oH 4 21 1,oH 5 22 5,o3 6 23 2 21 22,oa 7 24 23 2,qO 8 25 zCQ 20 24,qw 9 26 25] [17,18,19,20,21,22,23,24,25]
abbrev zSV:=oN [oO 4]
abbrev zSW:=oR [oA 15 5,oF 16 15 1,oA 5 16] [15,16]
abbrev zSX:=oN [o9 4]
abbrev yGe:=jX zSP (jU zSQ (jP 10 zSR)) (jU zSS (jR 0 zST 14 1 (jU zSU (jP 26 zSV)) zSW)) zSX .ret
abbrev zKZ:=jZ 27 [] 27 0
abbrev xBR:List RSrc:=[.tmp 4]
theorem zSY:j0 zBK yGe zKZ xBR:=by kernel_rfl
abbrev yA0:=oN [qV 2 zAx 2]
abbrev yA1:=oN [qV 3 zAx 2]
abbrev yA2:=oN [oE 4 0]
abbrev yA3:=oR [oA 10 4,oA 11 0,oI 12 11,oM 13 10 12] [10,11,12]
abbrev yA4:=oR [va 16 zAz 1,oA 17 0,oA 18 4,oK 19 2 17 18,oJ 20 19 1 1,oB 21 20 1,oy 22 zAz 1 16 21,vk 23 2 1 1 1 22,ox 5 0 91 2 1,oL 5 0 91 0 2 23] [16,17,18,19,20,21,22,23]
abbrev yA5:=oN [oE 6 0]
abbrev yA6:=oR [oA 24 6,oA 25 0,oA 26 4,oK 27 2 25 26,oJ 28 27 0 1,oB 29 28 1,oI 30 29,oM 31 24 30] [24,25,26,27,28,29,30]
abbrev yA7:=oR [oA 34 0,oA 35 4,oK 36 2 34 35,oJ 37 36 0 1,oB 38 37 1,oA 39 6,oK 40 2 38 39,oJ 41 40 0 1,oB 42 41 1,vS 43 6 0 1 42,qH 7 1 93 6,oL 7 1 93 0 2 43] [34,35,36,37,38,39,40,41,42,43]
abbrev yA8:=oN [oE 8 0]
abbrev yA9:=oR [oA 44 8,oA 45 0,oA 46 4,oK 47 2 45 46,oJ 48 47 0 1,oB 49 48 1,oA 50 6,oK 51 2 49 50,oJ 52 51 1 1,oB 53 52 1,oI 54 53,oM 55 44 54] [44,45,46,47,48,49,50,51,52,53,54]
abbrev zXN:=oR [oA 58 0,oA 59 4,oK 60 2 58 59,oJ 61 60 0 1,oB 62 61 1,oA 63 6,oK 64 2 62 63,oJ 65 64 1 1,oB 66 65 1,oA 67 8,oK 68 6 66 67,oT 69 68 6,o5 9 2 95 0 0 0 2,oL 9 2 95 0 6 69] [58,59,60,61,62,63,64,65,66,67,68,69]
abbrev zXO:=oR [oZ 70 9 5,oh 71 70 2 95 5 1,oo 72 zBB 71,oZ 73 9 5,oL 73 2 95 5 1 72] [70,71,72,73]
abbrev zXP:=oR [oZ 74 7 1,vr 75 74 1 93 1 zAs 6,oq 76 9 2 95 0 6,qK 77 6 76,oy 78 zAs 6 75 77,oZ 79 7 1,v8 79 1 93 1 78] [74,75,76,77,78,79]
abbrev zXQ:=oR [oA 56 8,oF 57 56 1,oA 8 57] [56,57]
abbrev zXR:=oR [oZ 80 5 0,vr 81 80 0 91 0 zBz 2,oq 82 7 1 93 0 2,qK 83 2 82,oy 84 zBz 2 81 83,oZ 85 5 0,v8 85 0 91 0 84] [80,81,82,83,84,85]
abbrev zXS:=oR [oA 32 6,oF 33 32 1,oA 6 33] [32,33]
abbrev zXT:=oR [ou 86 3,oq 87 5 0 91 0 2,qK 88 2 87,oy 89 zAx 2 86 88,ou 3 89] [86,87,88,89]
abbrev zXU:=oR [oA 14 4,oF 15 14 1,oA 4 15] [14,15]
abbrev zXV:=oR [ou 90 3,ou 2 90] [90]
abbrev yLA:=jX yA0 yA1 (jU yA2 (jR 0 yA3 13 1 (jV yA4 (jU yA5 (jR 2 yA6 31 3 (jV yA7 (jU yA8 (jR 4 yA9 55 5 (jV zXN zXO zXP) zXQ)) zXR) zXS)) zXT) zXU)) zXV .ret
abbrev zOp:=jZ 91 [(91,2),(93,2),(95,6)] 101 0
abbrev xBS:List RSrc:=[.tmp 2]
theorem yBa:j0 zBB yLA zOp xBS:=by kernel_rfl
abbrev zXW:=oN [vp 2 zAx 2]
abbrev zXX:=oN [vp 3 zAx 2]
abbrev zXY:=oN [oE 4 0]
abbrev zXZ:=oR [oA 10 4,oA 11 0,oI 12 11,oM 13 10 12] [10,11,12]
abbrev zX0:=oR [va 16 zAz 1,oA 17 0,oA 18 4,oK 19 2 17 18,oJ 20 19 1 1,oB 21 20 1,oy 22 zAz 1 16 21,vk 23 2 1 1 1 22,ox 5 0 91 2 1,oL 5 0 91 0 2 23] [16,17,18,19,20,21,22,23]
abbrev zX1:=oN [oE 6 0]
abbrev zX2:=oR [oA 24 6,oA 25 0,oA 26 4,oK 27 2 25 26,oJ 28 27 0 1,oB 29 28 1,oI 30 29,oM 31 24 30] [24,25,26,27,28,29,30]
abbrev zX3:=oR [oA 34 0,oA 35 4,oK 36 2 34 35,oJ 37 36 0 1,oB 38 37 1,oA 39 6,oK 40 2 38 39,oJ 41 40 0 1,oB 42 41 1,vS 43 6 0 1 42,qH 7 1 93 6,oL 7 1 93 0 2 43] [34,35,36,37,38,39,40,41,42,43]
abbrev zX4:=oN [oE 8 0]
abbrev zX5:=oR [oA 44 8,oA 45 0,oA 46 4,oK 47 2 45 46,oJ 48 47 0 1,oB 49 48 1,oA 50 6,oK 51 2 49 50,oJ 52 51 1 1,oB 53 52 1,oI 54 53,oM 55 44 54] [44,45,46,47,48,49,50,51,52,53,54]
abbrev zSZ:=oR [oA 58 0,oA 59 4,oK 60 2 58 59,oJ 61 60 0 1,oB 62 61 1,oA 63 6,oK 64 2 62 63,oJ 65 64 1 1,oB 66 65 1,oA 67 8,oK 68 6 66 67,oT 69 68 6,o5 9 2 95 0 0 0 2,oL 9 2 95 0 6 69] [58,59,60,61,62,63,64,65,66,67,68,69]
abbrev zS0:=oR [oZ 70 9 5,oh 71 70 2 95 5 1,oo 72 zBB 71,oZ 73 9 5,oL 73 2 95 5 1 72] [70,71,72,73]
abbrev zS1:=oR [oZ 74 7 1,⟨none,.vld 75 (.t 74) 1 93 1 1 false⟩,oq 76 9 2 95 0 6,qK 77 6 76,qx 78 zAs 6 75 77,oZ 79 7 1,⟨none,.vst (.t 79) 1 93 1 1 78⟩] [74,75,76,77,78,79]
abbrev zS2:=oR [oA 56 8,oF 57 56 1,oA 8 57] [56,57]
abbrev zS3:=oR [oZ 80 5 0,⟨none,.vld 81 (.t 80) 0 91 0 1 false⟩,jE 82 7 1 93 0 2,⟨none,.vbs 83 zBz 2 82⟩,qx 84 zBz 2 81 83,oZ 85 5 0,⟨none,.vst (.t 85) 0 91 0 1 84⟩] [80,81,82,83,84,85]
abbrev zS4:=oR [oA 32 6,oF 33 32 1,oA 6 33] [32,33]
abbrev zS5:=oR [qd 86 3,jE 87 5 0 91 0 2,⟨none,.vbs 88 zAx 2 87⟩,qx 89 zAx 2 86 88,qd 3 89] [86,87,88,89]
abbrev zS6:=oR [oA 14 4,oF 15 14 1,oA 4 15] [14,15]
abbrev zS7:=oR [qd 90 3,qd 2 90] [90]
abbrev yIW:=jX zXW zXX (jU zXY (jR 0 zXZ 13 1 (jV zX0 (jU zX1 (jR 2 zX2 31 3 (jV zX3 (jU zX4 (jR 4 zX5 55 5 (jV zSZ zS0 zS1) zS2)) zS3) zS4)) zS5) zS6)) zS7 .ret
abbrev zLQ:=jZ 91 [(91,2),(93,2),(95,6)] 101 0
abbrev xBT:List RSrc:=[.tmp 2]
theorem zX6:j0 zBB yIW zLQ xBT:=by kernel_rfl
end Go.Hx
end
