/-
  Walks of functions of the program over an abstract layer, and the laws that they use: each contract says what the function computes, for every input that its conditions let by. No other condition.
-/
import Derived.Test.YtjnagiaooecklabGreatDoorG10
import Derived.Test.YtjnagiaooecklabGreatDoorG29
import Derived.Test.YtjnagiaooecklabGreatDoorG14
import Derived.Test.YtjnagiaooecklabGreatDoorG31
import Derived.Test.YtjnagiaooecklabGreatDoorG28
import Derived.Test.YtjnagiaooecklabGreatDoorG15
set_option linter.all false
section
set_option maxRecDepth 100000
set_option linter.unusedSimpArgs false
set_option maxHeartbeats 4000000
namespace Go.Hx
open Go.Proofs
variable [Glob] [GlobL]
attribute [local go_sem] zAk zAl zAj zAf ndV zAm zAh zCw zAY
attribute [local go_sem] reduceCtorEq Nat.reduceAdd Nat.reduceEqDiff reduceIte Nat.reduceLeDiff Nat.reduceLT Nat.reduceSub
def yGd (d:List Nd):PVal:=if zAq d=0 then zOC d (idxOf d) else zOC [] []
theorem yHd {d:List Nd} (h:zAq d=0):yGd d=.agg [.sl 5 (zNI d),.sl 3 (zCv (idxOf d))]:=by unfold yGd;rw [if_pos h];rfl
theorem yLR {d:List Nd} (h:zAq d≠0):yGd d=.agg [.sl 5 [],.sl 3 []]:=by unfold yGd;rw [if_neg h];rfl
theorem yGe (d:List Nd):Contract Tryz.prog zJj [.val (zC9 d)] {res:=.tup [yGd d,iv (zAq d)]}:=by
 have hB:=zHs d
 obtain ⟨R,hR⟩:∃ R,R=yGd d:=⟨_,rfl⟩
 rw [←hR]
 obtain ⟨e,he⟩:∃ e,e=zAq d:=⟨_,rfl⟩
 rw [←he] at hB ⊢
 unfold zC9 at hB ⊢
 refine mkA yD6 (base:=0) (fo rfl) (fun hfit=>?_)
 unfold F0 zUb
 refine goU ?_
 refine zBx (by repeat' constructor) (hB) ?_
 refine goW ?_
 refine zAa (by rfl) trivial (fun h0=>?_) (fun h0=>?_)
 ·have h1:e≠0:=by simpa using h0
  rw [yLR (he▸h1)] at hR
  refine goW ?_
  rw [hR]
  exact zBd (by simp) ⟨zQH rfl rfl (.inr rfl),zAH rfl trivial (.inl rfl),rfl⟩
 have h1:e=0:=by simpa using h0
 rw [yHd (he.symm.trans h1)] at hR
 obtain ⟨d1,d2,d3⟩:=zFo (he.symm.trans h1)
 subst h1
 have hBe:(if (0:Int)=0 then idxOf d else [])=idxOf d:=if_pos rfl
 rw [hBe]
 refine goW ?_
 refine zAd (fun i:Nat=>[(23,.pv (iv i)),(47,.own zKv 5 (zNI (d.take i))),(49,.un),(50,.un),(51,.un),(52,.un),(53,.un),(8,.un),(24,.un)]) (fun i:Nat=>d.length-i) (fun i:Nat=>i≤d.length) (0) ?_ (Nat.zero_le _) ?_
 focus (exact leA)
 intro i hi
 refine goW ?_
 refine zAa (by rfl) trivial (fun g1=>?_) (fun g1=>?_)
 ·have hil:i < d.length:=by simpa using g1
  obtain ⟨hs1,hs2⟩:=(yKr d3 d2 (yLQ hil)).1
  have hx:=zAW d i hil
  have hstep:zNI (d.take (i+1))=zNI (d.take i)++[ndV (d.getD i default)]:=by
   unfold zNI
   rw [List.take_succ_eq_append_getElem hil,List.map_append]
   congr 1
   simp [hil]
  have hl:(zNI (d.take i)).length≤64:=by rw [zAk,List.length_take];omega
  obtain ⟨x,hxe⟩:∃ x,x=d.getD i default:=⟨_,rfl⟩
  rw [←hxe] at hx hs1 hs2 hstep
  obtain ⟨L,hL⟩:∃ L,L=zNI (d.take i):=⟨_,rfl⟩
  rw [←hL] at hstep hl ⊢
  unfold ndV at hx
  try simp (maxSteps:=2000000) only [go_sem,hx]
  repeat with_reducible refine zAt ?_
  refine zFD (by repeat' constructor) (zJk _ hs1) ?_
  refine goW ?_
  refine zFD (by repeat' constructor) (zLM _ hs2) ?_
  refine goW ?_
  refine ⟨i+1,by omega,hil,?_⟩
  rw [hstep]
  exact leA
 ·have hil:i=d.length:=by simp at g1;omega
  rw [hil,List.take_length]
  refine goW ?_
  rw [hR]
  exact zBd (by simp) ⟨zQH rfl rfl (.inl rfl),zAH rfl trivial (.inl rfl),rfl⟩
end Go.Hx
end

section
set_option maxRecDepth 100000
set_option linter.unusedSimpArgs false
set_option maxHeartbeats 4000000
namespace Go.Hx
open Go.Proofs
variable [Glob] [GlobL]
attribute [local go_sem] zAk zAl zAj zAf ndV zAm zAh zCw zAY
theorem zUd (d:List Nd) (ix:List Ent):Contract Tryz.prog zEl [.val (zOC d ix)] {res:=.val (iv (zT1 d ix))}:=by
 have hC:=zWX d
 have hI:=fun h h2=>yBf d h h2
 have hS:=zOt ix (idxOf d)
 unfold zT1 zOC
 obtain ⟨e,he⟩:∃ e,e=zAq d:=⟨_,rfl⟩
 rw [←he] at hC ⊢
 unfold zC9 at hC hI
 refine mkA zQw (base:=0) (fo rfl) (fun hfit=>?_)
 unfold F0 zJb
 refine goU ?_
 refine zAc (by repeat' constructor) (hC) ?_
 refine goW ?_
 refine zAa (by rfl) trivial (fun h0=>?_) (fun h0=>?_)
 ·have h1:e≠0:=by simpa using h0
  rw [if_pos h1]
  refine goW ?_
  exact zAb rfl trivial (.inl rfl)
 have h1:e=0:=by simpa using h0
 obtain ⟨d1,d2,d3⟩:=zFo (he.symm.trans h1)
 have hI:=hI d2 fun i hi=>Nat.le_trans (zEb (zG6 d3 hi)).1 (by decide)
 rw [if_neg (by rw [h1];decide)]
 refine goW ?_
 refine zAc (by repeat' constructor) (hI) ?_
 refine goW ?_
 refine zAc (by repeat' constructor) (hS) ?_
 refine goW ?_
 refine zAa (by rfl) trivial (fun h2=>?_) (fun h2=>?_)
 ·have h3:(idxOf d==ix)=false:=by
   have:(ix==idxOf d)=false:=by simpa using h2
   rw [beq_eq_false_iff_ne] at this ⊢
   exact fun h=>this h.symm
  rw [h3]
  refine goW ?_
  exact zAb rfl trivial (.inl rfl)
 ·have h3:(idxOf d==ix)=true:=by
   have:(ix==idxOf d)=true:=by simpa using h2
   rw [beq_iff_eq] at this ⊢
   exact this.symm
  rw [h3]
  refine goW ?_
  exact zAb rfl trivial (.inl rfl)
theorem yKs {d:List Nd} (h:zAq d=0):∀ e∈idxOf d,e.nodes.length * 8≤140737488355328:=by
 obtain ⟨d1,d2,d3⟩:=zFo h
 have hcl:∀ i,i < d.length→(d.getD i default).cls.length≤6:=fun i hi=>(zEb (zG6 d3 hi)).1
 intro e he
 have h1:=((zFF _ (zAS d d.length) rfl).2 e).1 he
 have h2:=zDT (zAS d d.length) e.key
 have h3:=zFH d d.length fun i hi=>hcl i hi
 rw [h1.2];omega
theorem yLT:zAq smallD=0:=by kernel_rfl
theorem yN4:yGd smallD=.agg [.sl 5 (zNI smallD),.sl 3 (zCv (idxOf smallD))]:=yHd yLT
theorem yIF:Contract Tryz.prog zLL [] {res:=.val (zOC smallD (idxOf smallD))}:=by
 have hO:=yGe smallD
 rw [yLT,yN4] at hO
 unfold zOC
 refine mkA yGc (base:=0) (fo rfl) (fun hfit=>?_)
 unfold F0 zXV
 refine goU ?_
 refine zAc (by repeat' constructor) (zUc) ?_
 refine goW ?_
 refine zBx (by repeat' constructor) (hO) ?_
 refine goW ?_
 exact zRt rfl rfl rfl
end Go.Hx
end

section
set_option maxRecDepth 100000
set_option linter.unusedSimpArgs false
set_option maxHeartbeats 4000000
namespace Go.Hx
open Go.Proofs
variable [Glob] [GlobL]
attribute [local go_sem] zAk zAl zAj zAf ndV zAm zAh zCw zAY zC9 zAQ
attribute [local go_sem] reduceCtorEq Nat.reduceAdd Nat.reduceEqDiff reduceIte Nat.reduceLeDiff Nat.reduceLT Nat.reduceSub
theorem yN5:yN9 (idxOf smallD) 3 [97]=([1,4],0):=by kernel_rfl
theorem yP3:(idxOf smallD).length=6:=by kernel_rfl
theorem yN6:yKk smallD (idxOf smallD) yLS=0:=by kernel_rfl
theorem yP4:yOc smallD yLS=[0,2]:=by kernel_rfl
theorem zEm (hM:zQz):Contract Tryz.prog zDV [] {res:=.val (bv true)}:=by
 have hB:=zHs smallD
 rw [yLT] at hB
 have hb:(if (0:Int)=0 then idxOf smallD else [])=idxOf smallD:=if_pos rfl
 rw [hb] at hB
 have hL:=zPm (idxOf smallD) 3 [97] (yKs yLT)
 rw [yN5] at hL
 have hF:=zPs hM smallD (idxOf smallD) yLS
 rw [yN6,if_pos rfl,yP4] at hF
 have hI1:=zCS [1,4] [1,4]
 have hI2:=zCS [0,2] [0,2]
 have hl:=yP3
 obtain ⟨X,hX⟩:∃ X,X=idxOf smallD:=⟨_,rfl⟩
 have hP:=yIF
 rw [←hX] at hB hL hF hl hP
 have hl2:((X.length:Int)==6)=true:=by rw [hl];rfl
 unfold zOC at hF hP
 unfold zC9 at hB
 refine mkA zOI (base:=0) (fo rfl) (fun hfit=>?_)
 unfold F0 zHC
 refine goU ?_
 refine zAc (by repeat' constructor) (zUc) ?_
 refine goW ?_
 refine zBx (by repeat' constructor) (hB) ?_
 refine goW ?_
 refine zBx (by repeat' constructor) (hL) ?_
 refine goW ?_
 refine zAc (by repeat' constructor) (hP) ?_
 refine goW ?_
 refine zAc (by repeat' constructor) (yD7) ?_
 refine goW ?_
 refine zBx (by repeat' constructor) (hF) ?_
 try simp (maxSteps:=2000000) only [go_sem,hl2]
 repeat with_reducible refine zAt ?_
 apply zAg (h2:=fun _=>hI1)
 ·(simp (maxSteps:=2000000) only [go_sem];rfl)
 ·intro h;repeat' (first|exact trivial|exact h|refine And.intro ?_ ?_)
 refine goW ?_
 apply zAg (h2:=fun _=>hI2)
 ·(simp (maxSteps:=2000000) only [go_sem];rfl)
 ·intro h;repeat' (first|exact trivial|exact h|refine And.intro ?_ ?_)
 refine goW ?_
 exact zAb rfl trivial (.inl rfl)
theorem zQC (hM:zQz) (d:List Nd) (ix:List Ent) (l:List Pt):Contract Tryz.prog zG9 [.val (zOC d ix),.val (zAQ l)] {res:=.val (bv true)}:=by
 have hF:=zPs hM d ix l
 have hE:=zUd d ix
 have hC:=zTS l
 have hA:=fun (a1:zAq d=0) (a2:zBD l=0)=>yFT d a1 l a2
 have hIa:=zCS (yOc d l) (yOc d l)
 rw [decide_eq_true rfl] at hIa
 have hI0:=zCS [] []
 rw [decide_eq_true rfl] at hI0
 have hpe:zT1 d ix=0→zAq d=0:=by
  unfold zT1
  intro h
  by_cases hz:zAq d=0
  ·exact hz
  ·rw [if_pos hz] at h;exact h
 obtain ⟨e,he⟩:∃ e,e=zT1 d ix:=⟨_,rfl⟩
 obtain ⟨c,hc⟩:∃ c,c=zBD l:=⟨_,rfl⟩
 have hfE:yKk d ix l=if e≠0 then e else c:=by rw [he,hc];rfl
 rw [hfE] at hF
 rw [←he] at hE hpe
 rw [←hc] at hC
 unfold zOC at hF hE ⊢
 unfold zC9 at hA
 unfold zAQ at hF hC hA ⊢
 by_cases h0:e=0
 ·have hcd:=hpe h0
  have g0:(e==0)=true:=by simp [h0]
  rw [show (if e≠0 then e else c)=c from if_neg (fun h=>h h0)] at hF
  by_cases hc0:c=0
  ·have hA:=hA hcd (hc.symm.trans hc0)
   have g1:(c==0)=true:=by simp [hc0]
   have hcc:(c==c)=true:=by simp
   rw [if_pos hc0] at hF
   refine mkA zDW (base:=0) (fo rfl) (fun hfit=>?_)
   unfold F0 zCX
   refine goU ?_
   refine zBx (by repeat' constructor) (hF) ?_
   refine goW ?_
   refine zAc (by repeat' constructor) (hE) ?_
   try simp (maxSteps:=2000000) only [go_sem,g0]
   repeat with_reducible refine zAt ?_
   refine zL0 (by rfl) trivial ?_
   refine goW ?_
   refine zAc (by repeat' constructor) (hC) ?_
   try simp (maxSteps:=2000000) only [go_sem,g1]
   repeat with_reducible refine zAt ?_
   refine zL0 (by rfl) trivial ?_
   refine goW ?_
   refine zFD (by repeat' constructor) (hA) ?_
   refine goW ?_
   refine zAc (by repeat' constructor) (zEm hM) ?_
   try simp (maxSteps:=2000000) only [go_sem,hcc]
   repeat with_reducible refine zAt ?_
   apply zAg (h2:=fun _=>hIa)
   ·(simp (maxSteps:=2000000) only [go_sem];rfl)
   ·intro h;repeat' (first|exact trivial|exact h|refine And.intro ?_ ?_)
   refine goW ?_
   exact zAb rfl trivial (.inl rfl)
  ·have g1:(c==0)=false:=by simp [hc0]
   have hcc:(c==c)=true:=by simp
   rw [if_neg hc0] at hF
   refine mkA zDW (base:=0) (fo rfl) (fun hfit=>?_)
   unfold F0 zCX
   refine goU ?_
   refine zBx (by repeat' constructor) (hF) ?_
   refine goW ?_
   refine zAc (by repeat' constructor) (hE) ?_
   try simp (maxSteps:=2000000) only [go_sem,g0]
   repeat with_reducible refine zAt ?_
   refine zL0 (by rfl) trivial ?_
   refine goW ?_
   refine zAc (by repeat' constructor) (hC) ?_
   try simp (maxSteps:=2000000) only [go_sem,g1]
   repeat with_reducible refine zAt ?_
   refine zH9 (by rfl) trivial ?_
   refine goW ?_
   refine zAc (by repeat' constructor) (zEm hM) ?_
   try simp (maxSteps:=2000000) only [go_sem,hcc]
   repeat with_reducible refine zAt ?_
   apply zAg (h2:=fun _=>hI0)
   ·(simp (maxSteps:=2000000) only [go_sem];rfl)
   ·intro h;repeat' (first|exact trivial|exact h|refine And.intro ?_ ?_)
   refine goW ?_
   exact zAb rfl trivial (.inl rfl)
 ·have g0:(e==0)=false:=by simp [h0]
  have hee:(e==e)=true:=by simp
  rw [show (if e≠0 then e else c)=e from if_pos h0,if_neg h0] at hF
  refine mkA zDW (base:=0) (fo rfl) (fun hfit=>?_)
  unfold F0 zCX
  refine goU ?_
  refine zBx (by repeat' constructor) (hF) ?_
  refine goW ?_
  refine zAc (by repeat' constructor) (hE) ?_
  try simp (maxSteps:=2000000) only [go_sem,g0]
  repeat with_reducible refine zAt ?_
  refine zH9 (by rfl) trivial ?_
  try simp (maxSteps:=2000000) only [go_sem,g0]
  repeat with_reducible refine zAt ?_
  refine zH9 (by rfl) trivial ?_
  refine goW ?_
  refine zAc (by repeat' constructor) (zEm hM) ?_
  try simp (maxSteps:=2000000) only [go_sem,hee]
  repeat with_reducible refine zAt ?_
  apply zAg (h2:=fun _=>hI0)
  ·(simp (maxSteps:=2000000) only [go_sem];rfl)
  ·intro h;repeat' (first|exact trivial|exact h|refine And.intro ?_ ?_)
  refine goW ?_
  exact zAb rfl trivial (.inl rfl)
end Go.Hx
end
