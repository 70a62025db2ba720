/-
  Walks of functions of the program over an abstract layer, and the laws that they use: each contract says what the function computes, for every input that its conditions let by. No other condition.
-/
import Derived.Test.YtjnagiaooecklaaGreatDoorG10
import Derived.Test.YtjnagiaooecklaaGreatDoorG31
import Derived.Test.YtjnagiaooecklaaGreatDoorG32
import Derived.Test.YtjnagiaooecklaaGreatDoorG13
set_option linter.all false
section
set_option maxRecDepth 100000
set_option linter.unusedSimpArgs false
set_option maxHeartbeats 4000000
namespace Go.Hx
open Go.Proofs
variable [Glob] [GlobL]
attribute [local go_sem] zAk zAi zAj zAe ndV zAg zAf zB5 zA2
attribute [local go_sem] reduceCtorEq Nat.reduceAdd Nat.reduceEqDiff reduceIte Nat.reduceLeDiff Nat.reduceLT Nat.reduceSub
def xD:List Nd:=[{up:=-1,tag:=[120],id:=[],cls:=[],att:=[]}]
def yN:Nd:={up:=0,tag:=[121],id:=[],cls:=[],att:=[]}
def lb1:List Nd:=yJS smallD 2
def lb2:List Nd:=yJR lb1 0 2 xD
def lb3:List Nd:=yJT lb2 3 yN
theorem yPe:zYg smallD 2=0:=by kernel_rfl
theorem yPf:zPr lb1 0 2 xD=0:=by kernel_rfl
theorem yPg:zYh lb2 3 yN=0:=by kernel_rfl
theorem yPh:zFf smallD (idxOf smallD)=0:=by kernel_rfl
theorem yPi:zFf lb1 (idxOf lb1)=0:=by kernel_rfl
theorem yPj:zFf lb2 (idxOf lb2)=0:=by kernel_rfl
theorem yPk:(idxOf lb1).length=4:=by kernel_rfl
theorem yPl:(idxOf lb2).length=5:=by kernel_rfl
theorem yPm:lb3.length=4:=by kernel_rfl
theorem yPn:(lb3.getD 3 default).tag=[121]:=by kernel_rfl
theorem yPo:zAd lb3=0:=by kernel_rfl
theorem zJu:Contract Tryz.prog zC1 [] {res:=.val (bv true)}:=by
 have h1:=zNd smallD (idxOf smallD) 2
 rw [yPh,yPe,yHH] at h1
 rw [show yJS smallD 2=lb1 from rfl] at h1
 have h2:=zNc lb1 (idxOf lb1) 0 2 xD
 rw [yPi,yPf,yHH] at h2
 rw [show yJR lb1 0 2 xD=lb2 from rfl] at h2
 have h3:=zVb lb2 (idxOf lb2) 3 yN
 rw [yPj,yPg,yHH] at h3
 rw [show yJT lb2 3 yN=lb3 from rfl] at h3
 obtain ⟨d1,d2,d3⟩:=zBr yPo
 have hI:=zX8 lb3 d2 fun i hi=>Nat.le_trans (zD9 (zJD d3 hi)).1 (by decide)
 have hS:=zNX (idxOf lb3) (idxOf lb3)
 rw [beq_self_eq_true] at hS
 have hP:=yFM
 have l1:=yPk
 have l2:=yPl
 have l3:=yPm
 have hg:=zBo lb3 3 (by rw [l3];decide)
 have ht:=yPn
 obtain ⟨y3,hy3⟩:∃ y,y=lb3.getD 3 default:=⟨_,rfl⟩
 rw [←hy3] at hg ht
 obtain ⟨X0,hX0⟩:∃ X,X=idxOf smallD:=⟨_,rfl⟩
 obtain ⟨X1,hX1⟩:∃ X,X=idxOf lb1:=⟨_,rfl⟩
 obtain ⟨X2,hX2⟩:∃ X,X=idxOf lb2:=⟨_,rfl⟩
 obtain ⟨X3,hX3⟩:∃ X,X=idxOf lb3:=⟨_,rfl⟩
 obtain ⟨D0,hD0⟩:∃ X,X=smallD:=⟨_,rfl⟩
 obtain ⟨D1,hD1⟩:∃ X,X=lb1:=⟨_,rfl⟩
 obtain ⟨D2,hD2⟩:∃ X,X=lb2:=⟨_,rfl⟩
 obtain ⟨D3,hD3⟩:∃ X,X=lb3:=⟨_,rfl⟩
 rw [←hX0] at h1 hP
 rw [←hX1] at h1 h2 l1
 rw [←hX2] at h2 h3 l2
 rw [←hX3] at h3 hI hS
 rw [←hD0] at h1 hP
 rw [←hD1] at h1 h2
 rw [←hD2] at h2 h3
 rw [←hD3] at h3 hI l3 hg
 have m1:((X1.length:Int)==4)=true:=by rw [l1];rfl
 have m2:((X2.length:Int)==5)=true:=by rw [l2];rfl
 have m3:((D3.length:Int)==4)=true:=by rw [l3];rfl
 have m4:(3:Int) < (D3.length:Int):=by rw [l3];decide
 have m5:(y3.tag==[121])=true:=by rw [ht];rfl
 have z3:Int.toNat 3=3:=rfl
 have hx:zCv xD=.agg [.sl 5 [[bI (-1),bS [120],bS [],.sl 1 [],.sl 2 []]]]:=rfl
 have hy:ndV yN=[bI 0,bS [121],bS [],.sl 1 [],.sl 2 []]:=rfl
 rw [hx] at h2
 rw [hy] at h3
 unfold ndV at hg
 unfold zHh at h1 h2 h3 hP
 unfold zCv at hI
 refine mkA zPk (base:=0) (fo rfl) (fun hfit=>?_)
 unfold F0 zJq
 refine goU ?_
 refine zAo (by repeat' constructor) (hP) ?_
 refine goW ?_
 refine zAR (by repeat' constructor) (h1) ?_
 refine goW ?_
 refine zAR (by repeat' constructor) (h2) ?_
 refine goW ?_
 refine zAR (by repeat' constructor) (h3) ?_
 try simp (maxSteps:=2000000) only [go_sem,m1,m2,m3,m5,z3,hg]
 repeat with_reducible refine zAP ?_
 apply zAr (h2:=fun _=>hI)
 ·(simp (maxSteps:=2000000) only [go_sem];rfl)
 ·intro h;repeat' (first|exact trivial|exact h|refine And.intro ?_ ?_)
 refine goW ?_
 apply zAr (h2:=fun _=>hS)
 ·(simp (maxSteps:=2000000) only [go_sem];rfl)
 ·intro h;repeat' (first|exact trivial|exact h|refine And.intro ?_ ?_)
 refine goW ?_
 exact zAb rfl trivial (.inl rfl)
end Go.Hx
end

section
set_option maxRecDepth 100000
set_option linter.unusedSimpArgs false
set_option maxHeartbeats 8000000
namespace Go.Hx
open Go.Proofs
variable [Glob] [GlobL]
attribute [local go_sem] zAk zAi zAj zAe ndV zAg zAf zB5 zA2
attribute [local go_sem] reduceCtorEq Nat.reduceAdd Nat.reduceEqDiff reduceIte Nat.reduceLeDiff Nat.reduceLT Nat.reduceSub
theorem yAZ {d:List Nd} (h:zAd d=0):zFf d (idxOf d)=0:=by unfold zFf;simp [h]
theorem zYe {d r:List Nd} {c:Int} (hd:zAd d=0) (hr:c=0→zAd r=0):∃ D V,zAd D=0∧pgR (zFf d (idxOf d)) c r=V∧pgE (zFf d (idxOf d)) c=c∧((c=0∧V=.agg [.sl 5 (zEf D),.sl 3 (zCK (idxOf D))])∨(¬ c=0∧V=.agg [.sl 5 [],.sl 3 []]∧D=d)):=by
 rw [yAZ hd]
 by_cases h:c=0
 ·subst h
  exact ⟨r,_,hr rfl,rfl,rfl,.inl ⟨rfl,yHH⟩⟩
 ·exact ⟨d,_,hd,rfl,rfl,.inr ⟨h,yNP h,rfl⟩⟩
theorem zUl (hM:zO6) (d:List Nd) (up at':Int) (e:List Nd) (n m:Int) (x:Nd) (l:List Pt):Contract Tryz.prog zJn [.val (zCv d),.val (iv up),.val (iv at'),.val (zCv e),.val (iv n),.val (iv m),.val (.agg (ndV x)),.val (zBC l)] {res:=.val (bv true)}:=by
 have hO:=zLz d
 by_cases hd:zAd d=0
 ·obtain ⟨D1,V1,k1,v1,w1,A1⟩:=zYe (d:=d) (r:=yJR d up at' e) (c:=zPr d up at' e) hd yHI
  have h1:=zNc d (idxOf d) up at' e
  rw [v1,w1] at h1
  obtain ⟨D2,V2,k2,v2,w2,A2⟩:=zYe (d:=D1) (r:=yJS D1 n) (c:=zYg D1 n) k1 yHJ
  have h2:=zNd D1 (idxOf D1) n
  rw [v2,w2] at h2
  obtain ⟨D3,V3,k3,v3,w3,A3⟩:=zYe (d:=D2) (r:=yJT D2 m x) (c:=zYh D2 m x) k2 yHK
  have h3:=zVb D2 (idxOf D2) m x
  rw [v3,w3] at h3
  have hF:=yAB hM D3 (idxOf D3) l
  have hA:=yCM hM D3 l
  have hC:=zDV D3
  rw [k3] at hC
  have hfe:yHn D3 (idxOf D3) l=zB8 l:=by unfold yHn;rw [yAZ k3];rfl
  have hbe:zRX D3 l=zB8 l:=by unfold zRX;rw [if_neg (by rw [k3];decide)]
  rw [hfe] at hF
  rw [hbe] at hA
  have hI:=zKs (if zB8 l=0 then yLT D3 l else []) (if zB8 l=0 then yLT D3 l else [])
  rw [decide_eq_true rfl] at hI
  rw [hd,zM9 hd] at hO
  obtain ⟨c,hc⟩:∃ c,c=zB8 l:=⟨_,rfl⟩
  rw [←hc] at hF hA hI
  obtain ⟨L,hL⟩:∃ L,L=(if c=0 then yLT D3 l else []):=⟨_,rfl⟩
  rw [←hL] at hF hA hI
  clear hL hfe hbe
  obtain ⟨c1,hc1⟩:∃ c,c=zPr d up at' e:=⟨_,rfl⟩
  obtain ⟨c2,hc2⟩:∃ c,c=zYg D1 n:=⟨_,rfl⟩
  obtain ⟨c3,hc3⟩:∃ c,c=zYh D2 m x:=⟨_,rfl⟩
  rw [←hc1] at h1 A1
  rw [←hc2] at h2 A2
  rw [←hc3] at h3 A3
  clear hc1 hc2 hc3 v1 v2 v3 w1 w2 w3
  have hcc:(c==c)=true:=by simp
  unfold ndV at h3 ⊢
  unfold zHh at h1 h2 h3 hF
  unfold zCv at hO h1 hA hC ⊢
  unfold zBC at hF hA ⊢
  rcases A1 with ⟨a1,rfl⟩|⟨a1,rfl,rfl⟩<;>rcases A2 with ⟨a2,rfl⟩|⟨a2,rfl,rfl⟩<;>rcases A3 with ⟨a3,rfl⟩|⟨a3,rfl,rfl⟩
  all_goals
   have g1:(c1==0)=decide (c1=0):=by by_cases h:c1=0<;>simp [h]
   have g2:(c2==0)=decide (c2=0):=by by_cases h:c2=0<;>simp [h]
   have g3:(c3==0)=decide (c3=0):=by by_cases h:c3=0<;>simp [h]
   first|rw [decide_eq_true a1] at g1|rw [decide_eq_false a1] at g1
   first|rw [decide_eq_true a2] at g2|rw [decide_eq_false a2] at g2
   first|rw [decide_eq_true a3] at g3|rw [decide_eq_false a3] at g3
   refine mkA zJr (base:=0) (fo rfl) (fun hfit=>?_)
   unfold F0 zF4
   refine goU ?_
   refine zAR (by repeat' constructor) (hO) ?_
   refine goW ?_
   refine zHm (by rfl) trivial ?_
   refine goW ?_
   refine zAR (by repeat' constructor) (h1) ?_
   try simp (maxSteps:=2000000) only [go_sem,g1]
   repeat with_reducible refine zAP ?_
   first|(refine zKk (by rfl) trivial ?_)|(refine zHm (by rfl) trivial ?_)
   refine goW ?_
   refine zAR (by repeat' constructor) (h2) ?_
   try simp (maxSteps:=2000000) only [go_sem,g2]
   repeat with_reducible refine zAP ?_
   first|(refine zKk (by rfl) trivial ?_)|(refine zHm (by rfl) trivial ?_)
   refine goW ?_
   refine zAR (by repeat' constructor) (h3) ?_
   try simp (maxSteps:=2000000) only [go_sem,g3]
   repeat with_reducible refine zAP ?_
   first|(refine zKk (by rfl) trivial ?_)|(refine zHm (by rfl) trivial ?_)
   refine goW ?_
   refine zAR (by repeat' constructor) (hF) ?_
   refine goW ?_
   refine zAR (by repeat' constructor) (hA) ?_
   refine goW ?_
   refine zAo (by repeat' constructor) (zJu) ?_
   try simp (maxSteps:=2000000) only [go_sem,hcc]
   repeat with_reducible refine zAP ?_
   apply zAr (h2:=fun _=>hI)
   ·(simp (maxSteps:=2000000) only [go_sem];rfl)
   ·intro h;repeat' (first|exact trivial|exact h|refine And.intro ?_ ?_)
   refine goW ?_
   apply zAr (h2:=fun _=>hC)
   ·(simp (maxSteps:=2000000) only [go_sem];rfl)
   ·intro h;repeat' (first|exact trivial|exact h|refine And.intro ?_ ?_)
   refine goW ?_
   exact zAb rfl trivial (.inl rfl)
 ·obtain ⟨a,b,hab⟩:=yHz d
  have g0:(zAd d != 0)=true:=by simpa using hd
  rw [hab] at hO
  obtain ⟨c,hc⟩:∃ c,c=zAd d:=⟨_,rfl⟩
  rw [←hc] at hO g0
  unfold zCv at hO ⊢
  unfold zBC ndV
  refine mkA zJr (base:=0) (fo rfl) (fun hfit=>?_)
  unfold F0 zF4
  refine goU ?_
  refine zAR (by repeat' constructor) (hO) ?_
  try simp (maxSteps:=2000000) only [go_sem,g0]
  repeat with_reducible refine zAP ?_
  refine zKk (by rfl) trivial ?_
  refine goW ?_
  refine zAo (by repeat' constructor) (zJu) ?_
  refine goW ?_
  exact zAb rfl trivial (.inl rfl)
end Go.Hx
end
