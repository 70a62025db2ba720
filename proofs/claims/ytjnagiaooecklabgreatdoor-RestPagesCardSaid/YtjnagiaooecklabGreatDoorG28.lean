/-
  Walks of functions of the program over an abstract layer, and the laws that they use: each contract says what the function computes, for every input that its conditions let by. No other condition.
-/
import Derived.Test.YtjnagiaooecklabGreatDoorG11
import Derived.Test.YtjnagiaooecklabGreatDoorG25
import Derived.Test.YtjnagiaooecklabGreatDoorG21
import Derived.Test.YtjnagiaooecklabGreatDoorG20
import Derived.Test.YtjnagiaooecklabGreatDoorG15
import Derived.Test.YtjnagiaooecklabGreatDoorG12
import Derived.Test.YtjnagiaooecklabGreatDoorG27
import Derived.Test.YtjnagiaooecklabGreatDoorG13
set_option linter.all false
section
set_option maxRecDepth 100000
set_option maxHeartbeats 4000000
namespace Go.Hx
open Go.Proofs
variable [Glob] [GlobL]
attribute [local go_sem] zAh zAj zAg zAd ndV zAm zAn zCq zAD
attribute [local go_sem] reduceCtorEq Nat.reduceAdd Nat.reduceEqDiff reduceIte Nat.reduceLeDiff Nat.reduceLT Nat.reduceSub
abbrev yVb (d:List Nd) (ix:List Ent) (up at':Int) (e:List Nd) (l:List Pt):List AV:=[.val (zEw d ix),.val (iv up),.val (iv at'),.val (zB6 e),.val (.one (.sl 2 (zBx l)))]
def rpQ (av:List AV) (G:List Ct→Prop):Exit→List Ct→Prop
 |.normal,F=>G F
 |.ret,F=>yGw xBU 0 av zDl {res:=.val (bv true)} .ret F
 |.exit _,_=>False
 |.goto _,_=>False
 |.panic _,_=>False
 |.outgrown,_=>False
theorem zOq {av:List AV} {G:List Ct→Prop} {F:List Ct}:rpQ av G .normal F=G F:=rfl
theorem zOr {av:List AV} {G:List Ct→Prop} {F:List Ct}:rpQ av G .ret F=yGw xBU 0 av zDl {res:=.val (bv true)} .ret F:=rfl
def lA (d:List Nd) (up at':Int) (e:List Nd) (l:List Pt):List (Nat×Ct):=[(1,.pv (iv up)),(2,.pv (iv at')),(4,.pv (.one (.sl 2 (zBx l)))),(5,.pv (.one (.fp [.sl 5 (zDW d),.sl 3 (zEf (zBF d))]))),(8,.pv (.one (.fp [.sl 5 (zDW e)]))),(11,.pv (.one (.fp [.sl 5 (zDW d),.sl 3 (zEf (zBF d))]))),(12,.pv (.one (.sl 2 (zBx l))))]
theorem yGl {d:List Nd} {ix:List Ent} (h:zD0 d ix=0):zAl d=0∧ix=zBF d:=by
 unfold zD0 at h
 split at h
 ·rename_i h1;exact absurd h h1
 ·rename_i h1
  refine ⟨by simpa using h1,?_⟩
  split at h
  ·rename_i h2;exact (beq_iff_eq.1 h2).symm
  ·cases h
theorem yZr (d:List Nd) (ix:List Ent) (up at':Int) (e:List Nd) (l:List Pt):
  hwp Tryz.prog (.seq rp0 (.seq rpX (.seq rp3 rp4))) (rpQ (yVb d ix up at' e l) (fun F=>zD0 d ix=0∧zCK l=0∧Le F (fr0 310 (lA d up at' e l)))) (F0 xBU 0 (yVb d ix up at' e l)):=by
 have hPE:=zW8 d ix
 have hCL:=zW7 l
 unfold zBZ at hCL
 obtain ⟨G,hG⟩:∃ G,G=(fun F=>zD0 d ix=0∧zCK l=0∧Le F (fr0 310 (lA d up at' e l))):=⟨_,rfl⟩
 rw [←hG]
 obtain ⟨w,hw⟩:∃ w,w=zD0 d ix:=⟨_,rfl⟩
 obtain ⟨c,hc⟩:∃ c,c=zCK l:=⟨_,rfl⟩
 rw [←hw] at hPE
 rw [←hc] at hCL
 unfold yVb
 unfold zEw at hPE ⊢
 unfold zB6
 unfold F0 xBU
 simp (maxSteps:=2000000) only [yGN,List.set_cons_succ,List.set_cons_zero,List.map_cons,List.map_nil,yCC,zAi,ioOf,List.length_cons,List.length_nil,Nat.reduceAdd,Nat.reduceSub,List.replicate,List.cons_append,List.nil_append]
 try simp (maxSteps:=2000000) only [go_sem,zOq,zOr]
 repeat with_reducible refine zAt ?_
 refine zAe (by repeat' constructor) (hPE) ?_
 try simp (maxSteps:=2000000) only [go_sem,zOq,zOr]
 repeat with_reducible refine zAt ?_
 by_cases h0:w=0
 ·have g0:(w != 0)=false:=by simp [h0]
  try simp (maxSteps:=2000000) only [go_sem,g0,zOq,zOr]
  repeat with_reducible refine zAt ?_
  apply zAo (h2:=fun _=>hCL)
  ·(simp (maxSteps:=2000000) only [go_sem];rfl)
  ·intro h;repeat' (first|exact trivial|exact h|refine And.intro ?_ ?_)
  try simp (maxSteps:=2000000) only [go_sem,g0,zOq,zOr]
  repeat with_reducible refine zAt ?_
  refine zAa (by rfl) trivial (fun h1=>?_) (fun h1=>?_)
  ·try simp (maxSteps:=2000000) only [go_sem,zOq,zOr]
   repeat with_reducible refine zAt ?_
   refine zAe (by repeat' constructor) (zF8) ?_
   try simp (maxSteps:=2000000) only [go_sem,zOq,zOr]
   repeat with_reducible refine zAt ?_
   exact zAb rfl trivial (.inl rfl)
  ·have h2:c=0:=by simpa using h1
   obtain ⟨k1,k2⟩:=yGl (hw.symm.trans h0)
   obtain ⟨d1,d2,d3⟩:=zA0 k1
   have hO:=zQH d d2 fun i hi=>by
    have:=zBD (zCY d3 hi)
    omega
   have hI:=zFD d d2 fun i hi=>Nat.le_trans (zBD (zCY d3 hi)).1 (by decide)
   have hL:=zTG _ l (Nat.le_refl _) (yU3 l (hc.symm.trans h2))
   unfold zB6 at hO hI
   try simp (maxSteps:=2000000) only [go_sem,zOq,zOr]
   repeat with_reducible refine zAt ?_
   refine zAe (by repeat' constructor) (hO) ?_
   try simp (maxSteps:=2000000) only [go_sem,zOq,zOr]
   repeat with_reducible refine zAt ?_
   refine zAe (by repeat' constructor) (hI) ?_
   try simp (maxSteps:=2000000) only [go_sem,zOq,zOr]
   repeat with_reducible refine zAt ?_
   refine zA3 (by repeat' constructor) (hL) ?_
   try simp (maxSteps:=2000000) only [go_sem,zOq,zOr]
   repeat with_reducible refine zAt ?_
   rw [hG]
   refine ⟨hw.symm.trans h0,hc.symm.trans h2,?_⟩
   rw [k2]
   unfold fr0 lA
   simp only [List.replicate,zBY,zCA,List.set_cons_succ,List.set_cons_zero]
   exact leA
 ·have g0:(w != 0)=true:=by simp [h0]
  try simp (maxSteps:=2000000) only [go_sem,g0,zOq,zOr]
  repeat with_reducible refine zAt ?_
  apply zAo (h2:=fun _=>hCL)
  ·(simp (maxSteps:=2000000) only [go_sem];rfl)
  ·intro h;repeat' (first|exact trivial|exact h|refine And.intro ?_ ?_)
  try simp (maxSteps:=2000000) only [go_sem,g0,zOq,zOr]
  repeat with_reducible refine zAt ?_
  refine zE5 (by rfl) trivial ?_
  try simp (maxSteps:=2000000) only [go_sem,zOq,zOr]
  repeat with_reducible refine zAt ?_
  refine zAe (by repeat' constructor) (zF8) ?_
  try simp (maxSteps:=2000000) only [go_sem,zOq,zOr]
  repeat with_reducible refine zAt ?_
  exact zAb rfl trivial (.inl rfl)
end Go.Hx
end

section
set_option maxRecDepth 100000
set_option maxHeartbeats 4000000
namespace Go.Hx
open Go.Proofs
variable [Glob] [GlobL]
attribute [local go_sem] zAh zAj zAg zAd ndV zAm zAn zCq zAD
attribute [local go_sem] reduceCtorEq Nat.reduceAdd Nat.reduceEqDiff reduceIte Nat.reduceLeDiff Nat.reduceLT Nat.reduceSub
def rpN (G:List Ct→Prop):Exit→List Ct→Prop
 |.normal,F=>G F
 |.ret,_=>False
 |.exit _,_=>False
 |.goto _,_=>False
 |.panic _,_=>False
 |.outgrown,_=>False
theorem zCF {G:List Ct→Prop} {F:List Ct}:rpN G .normal F=G F:=rfl
def lXx (φ:Nat→Value→Prop) (d:List Nd) (up at':Int) (e:List Nd) (l:List Pt) (r:List (Nat×Ct)):List (Nat×Ct):=[(1,.pv (iv up)),(2,.pv (iv at')),(4,.pv (.one (.w (φ 4) (.sl 2 (zBx l))))),(5,.pv (.one (.w (φ 5) (.fp [.sl 5 (zDW d),.sl 3 (zEf (zBF d))])))),(8,.pv (.one (.w (φ 8) (.fp [.sl 5 (zDW e)])))),(11,.pv (.one (.w (φ 11) (.fp [.sl 5 (zDW d),.sl 3 (zEf (zBF d))])))),(12,.pv (.one (.w (φ 12) (.sl 2 (zBx l)))))]++r
def g5 (φ:Nat→Value→Prop) (up at' c:Int) (r:List Nd) (F:List Ct):Prop:=
 F.getD 1 .un=.pv (iv up)∧F.getD 2 .un=.pv (iv at')∧(∃ x,F.getD 4 .un=.pv (.one (.w (φ 4) x)))∧(∃ x,F.getD 5 .un=.pv (.one (.w (φ 5) x)))∧(∃ x,F.getD 8 .un=.pv (.one (.w (φ 8) x)))∧(∃ x,F.getD 11 .un=.pv (.one (.w (φ 11) x)))∧(∃ x,F.getD 12 .un=.pv (.one (.w (φ 12) x)))∧
 F.getD 13 .un=.ptr 1 0∧F.getD 14 .un=.pv (iv c)∧F.getD 304 .un=.pv (.one (if c=0 then fr (.sl 5 (yI4 r)) else .sl 5 []))∧F.getD 305 .un=.pv (.one (if c=0 then fr (.sl 3 (zFi (zBF r))) else .sl 3 []))
theorem yZs (φ:Nat→Value→Prop) (d:List Nd) (up at':Int) (e:List Nd) (l:List Pt) (hd:zAl d=0):
  hwp Tryz.prog rp5 (rpN (g5 φ up at' (zEz d up at' e) (yI5 d up at' e))) (fr0 310 (lXx φ d up at' e l [])):=by
 have hp:zD0 d (zBF d)=0:=by
  unfold zD0
  rw [if_neg (by rw [hd];decide),if_pos (by simp)]
 have h:=yFC d (zBF d) up at' e
 rw [hp] at h
 have e1:pgE 0 (zEz d up at' e)=zEz d up at' e:=rfl
 unfold pgF at h
 rw [e1] at h
 obtain ⟨c,hc⟩:∃ c,c=zEz d up at' e:=⟨_,rfl⟩
 obtain ⟨r,hr⟩:∃ r,r=yI5 d up at' e:=⟨_,rfl⟩
 rw [←hc,←hr] at h ⊢
 obtain ⟨G,hG⟩:∃ G,G=g5 φ up at' c r:=⟨_,rfl⟩
 rw [←hG]
 unfold fr0 lXx
 simp only [List.replicate,List.append_nil,List.cons_append,List.nil_append,zBY,zCA,List.set_cons_succ,List.set_cons_zero]
 unfold zEw zB6 at h
 by_cases h0:c=0
 ·rw [if_pos h0] at h
  try simp (maxSteps:=2000000) only [go_sem,zCF]
  repeat with_reducible refine zAt ?_
  refine zA8 (by repeat' constructor) (h) ?_
  try simp (maxSteps:=2000000) only [go_sem,zCF]
  repeat with_reducible refine zAt ?_
  rw [hG]
  refine ⟨rfl,rfl,⟨_,rfl⟩,⟨_,rfl⟩,⟨_,rfl⟩,⟨_,rfl⟩,⟨_,rfl⟩,rfl,rfl,?_,?_⟩<;>rw [if_pos h0]<;>rfl
 ·rw [if_neg h0] at h
  try simp (maxSteps:=2000000) only [go_sem,zCF]
  repeat with_reducible refine zAt ?_
  refine zA8 (by repeat' constructor) (h) ?_
  try simp (maxSteps:=2000000) only [go_sem,zCF]
  repeat with_reducible refine zAt ?_
  rw [hG]
  refine ⟨rfl,rfl,⟨_,rfl⟩,⟨_,rfl⟩,⟨_,rfl⟩,⟨_,rfl⟩,⟨_,rfl⟩,rfl,rfl,?_,?_⟩<;>rw [if_neg h0]<;>rfl
def g25 (φ:Nat→Value→Prop) (up at' c:Int) (l:List Pt) (F:List Ct):Prop:=
 F.getD 1 .un=.pv (iv up)∧F.getD 2 .un=.pv (iv at')∧(∃ x,F.getD 4 .un=.pv (.one (.w (φ 4) x)))∧(∃ x,F.getD 5 .un=.pv (.one (.w (φ 5) x)))∧(∃ x,F.getD 8 .un=.pv (.one (.w (φ 8) x)))∧(∃ x,F.getD 11 .un=.pv (.one (.w (φ 11) x)))∧(∃ x,F.getD 12 .un=.pv (.one (.w (φ 12) x)))∧
 F.getD 14 .un=.pv (iv c)∧F.getD 20 .un=.pv (.one (fr (.sl 2 (zOw (plL l)))))∧F.getD 21 .un=.pv (iv 0)
theorem yXp (φ:Nat→Value→Prop) (d:List Nd) (up at' c:Int) (e:List Nd) (l:List Pt) (hl:zCK l=0):
  hwp Tryz.prog yZi (rpN (g25 φ up at' c l)) (fr0 310 (lXx φ d up at' e l [(14,.pv (iv c))])):=by
 have h:=zOm l
 rw [hl,if_pos rfl] at h
 have h:=h.arg (al:=[.val (.one (.w (φ 4) (.sl 2 (zBx l))))]) ⟨Dn.w _ _,trivial⟩
 obtain ⟨G,hG⟩:∃ G,G=g25 φ up at' c l:=⟨_,rfl⟩
 rw [←hG]
 unfold fr0 lXx
 simp only [List.replicate,List.append_nil,List.cons_append,List.nil_append,zBY,zCA,List.set_cons_succ,List.set_cons_zero]
 try simp (maxSteps:=2000000) only [go_sem,zCF]
 repeat with_reducible refine zAt ?_
 refine zA8 (by repeat' constructor) (h) ?_
 try simp (maxSteps:=2000000) only [go_sem,zCF]
 repeat with_reducible refine zAt ?_
 rw [hG]
 exact ⟨rfl,rfl,⟨_,rfl⟩,⟨_,rfl⟩,⟨_,rfl⟩,⟨_,rfl⟩,⟨_,rfl⟩,rfl,rfl,rfl⟩
theorem yZZ (w c:Int) (r:List Nd):pgR w c r=.agg [.sl 5 (zDW (pgD w c r)),.sl 3 (zEf (pgX w c r))]:=rfl
theorem yZt (d:List Nd) (up at':Int) (e:List Nd) (l:List Pt) (av:List AV) (hio:ioOf av=none) (hd:zAl d=0) (hl:zCK l=0):
  hwp Tryz.prog rpC (yGw xBU 0 av zDl {res:=.val (bv true)}) (fr0 310 (lA d up at' e l++[(14,.pv (iv (zEz d up at' e)))]++[(21,.pv (iv 0))])):=by
 have hp:zD0 d (zBF d)=0:=by
  unfold zD0
  rw [if_neg (by rw [hd];decide),if_pos (by simp)]
 have h1:=zN2 d (zBF d) up at' e
 rw [hp] at h1
 have e1:pgE 0 (zEz d up at' e)=zEz d up at' e:=rfl
 rw [e1] at h1
 have hI:=zR9 d up at' e
 have hie:(if zEz d up at' e=0 then yXI d up at' e else [])=yI5 d up at' e:=by
  unfold yI5
  split
  ·rename_i h;exact (yIA h).symm
  ·rfl
 rw [hie] at hI
 have g1:=yII (yI5 d up at' e) (zEz d up at' e) yLm
 have hP:=yF6 l
 rw [hl,if_pos rfl] at hP
 have hR:=(ySq l (yU3 l hl)).fresh.dn (y:=.one (.sl 2 (zBx (plL l)))) (Dn.w _ _)
 obtain ⟨c,hc⟩:∃ c,c=zEz d up at' e:=⟨_,rfl⟩
 obtain ⟨r,hr⟩:∃ r,r=yI5 d up at' e:=⟨_,rfl⟩
 rw [←hc,←hr] at h1 hI g1
 rw [←hc]
 have s1:=zKP (pgD 0 c r) (pgX 0 c r)
 have s2:=zKP d (zBF d)
 have s3:=yGf l l
 have s4:=yGf (plL l) (plL l)
 rw [(zEd _ _).2 rfl] at s3 s4
 rw [yZZ] at h1 g1
 obtain ⟨D1,hD1⟩:∃ D,D=pgD 0 c r:=⟨_,rfl⟩
 obtain ⟨X1,hX1⟩:∃ D,D=pgX 0 c r:=⟨_,rfl⟩
 rw [←hD1,←hX1] at h1 g1 s1
 have b1:(c==c)=true:=by simp
 have b0:((0:Int)==0)=true:=rfl
 unfold zEw at h1 s1 s2
 unfold zB6 at h1 hI g1
 unfold fr0 lA
 simp only [List.replicate,List.append_nil,List.cons_append,List.nil_append,zBY,zCA,List.set_cons_succ,List.set_cons_zero]
 refine goW ?_
 refine zA8 (by repeat' constructor) (h1) ?_
 refine goW ?_
 refine zA8 (by repeat' constructor) (hI) ?_
 refine goW ?_
 refine zA8 (by repeat' constructor) (g1) ?_
 refine goW ?_
 refine zA8 (by repeat' constructor) (hP) ?_
 refine goW ?_
 refine zAe (by repeat' constructor) (zF8) ?_
 try simp (maxSteps:=2000000) only [go_sem,b1,b0]
 repeat with_reducible refine zAt ?_
 apply zAo (h2:=fun _=>s1)
 ·(simp (maxSteps:=2000000) only [go_sem];rfl)
 ·intro h;repeat' (first|exact trivial|exact h|refine And.intro ?_ ?_)
 refine goW ?_
 apply zAo (h2:=fun _=>s2)
 ·(simp (maxSteps:=2000000) only [go_sem];rfl)
 ·intro h;repeat' (first|exact trivial|exact h|refine And.intro ?_ ?_)
 refine goW ?_
 apply zAo (h2:=fun _=>s3)
 ·(simp (maxSteps:=2000000) only [go_sem];rfl)
 ·intro h;repeat' (first|exact trivial|exact h|refine And.intro ?_ ?_)
 refine goW ?_
 apply zAo (h2:=fun _=>hR)
 ·(simp (maxSteps:=2000000) only [go_sem];rfl)
 ·intro h;repeat' (first|exact trivial|exact h|refine And.intro ?_ ?_)
 refine goW ?_
 apply zAo (h2:=fun _=>s4)
 ·(simp (maxSteps:=2000000) only [go_sem];rfl)
 ·intro h;repeat' (first|exact trivial|exact h|refine And.intro ?_ ?_)
 refine goW ?_
 exact zAb rfl trivial (.inl rfl) hio
end Go.Hx
end

section
set_option maxRecDepth 100000
set_option maxHeartbeats 8000000
namespace Go.Hx
open Go.Proofs
variable [Glob] [GlobL]
attribute [local go_sem] zAh zAj zAg zAd ndV zAm zAn List.length_map
attribute [local go_sem] reduceCtorEq Nat.reduceAdd Nat.reduceEqDiff reduceIte Nat.reduceLeDiff Nat.reduceLT Nat.reduceSub
section
variable {P:Go.Program} {Q:Exit→List Ct→Prop} {F:List Ct}
theorem yTd {ops:List HO} {x y:Opd} {n:Nat} {js:List (Nat×Nat×Nat)} {post:List Gh}:hwp P (.jreg ops x n y js post) Q F=yVk P ops (fun F1=>jst F1 x n y js (ghK post (nrm Q))) (yXF Q) F:=rfl
theorem yLD {x y:Opd} {n i1 j1 b1:Nat} {K:List Ct→Prop} {cs:List PV} {p:PVal} {X:PV} {R:PV→Prop} (e1:(zAn F x).pv?=some (.one (.fp cs))) (e2:(zAn F y).pv?=some p) (n1:(zAn F x).need) (n2:(zAn F y).need) (l1:cs.length=n) (l2:p.cells.length=n) (h1:F.getD i1 .un=.pv (.one X))
  (hc:∀ (m:Mem) (b o:Nat) (u:Value) (us vs:List Value),(∀ i u,us[i]?=some u→m b (o+i)=some u)→RpL m cs us→RpL m p.cells vs→Rp m X u→∃ x',R x'∧Rp (yI0 m b o vs) x' u)
  (hK:∀ X',R X'→K ((F.map zBj).set i1 (.pv (.one X')))):jst F x n y [(i1,j1,b1)] K:=by
 unfold jst
 rw [e1,e2]
 exact ⟨n1,n2,l1,l2,X,R,h1,hc,hK⟩
theorem yGm {x y:Opd} {n i1 j1 b1 i2 j2 b2:Nat} {K:List Ct→Prop} {cs:List PV} {p:PVal} {X Y:PV} {ss:List Sh} {s1 s2:Sh} (e1:(zAn F x).pv?=some (.one (.fp cs))) (e2:(zAn F y).pv?=some p) (n1:(zAn F x).need) (n2:(zAn F y).need) (l1:cs.length=n) (l2:p.cells.length=n)
  (hc:zCj ss cs) (hz:zOk ss p.cells=true) (h1:F.getD i1 .un=.pv (.one X)) (k1:zAR s1 X) (h2:F.getD i2 .un=.pv (.one Y)) (k2:zAR s2 Y)
  (hK:∀ X' Y',zAR s1 X'→ySr X X'→zAR s2 Y'→ySr Y Y'→K (((F.map zBj).set i1 (.pv (.one X'))).set i2 (.pv (.one Y')))):jst F x n y [(i1,j1,b1),(i2,j2,b2)] K:=by
 unfold jst
 rw [e1,e2]
 exact ⟨n1,n2,l1,l2,X,_,h1,yB9 k1 hc hz,fun X' hX=>⟨Y,_,h2,yB9 k2 hc hz,fun Y' hY=>hK X' Y' hX.1 hX.2 hY.1 hY.2⟩⟩
end
theorem yLE:zBj .un=.un:=rfl
theorem zYa:zBj .una=.una:=rfl
theorem zYb {j o:Nat}:zBj (.ptr j o)=.ptr j o:=rfl
theorem yVc {z:Value}:zBj (.pv (.one (.v z)))=.pv (.one (.v z)):=rfl
theorem yVd {φ:Value→Prop}:zBj (.pv (.one (.w φ .any)))=.pv (.one (.w φ .any)):=rfl
theorem yLF {k:Nat} {rows:List (List PV)}:zBj (.pv (.one (.sl k rows)))=.un:=rfl
theorem yLG {cs:List PV}:zBj (.pv (.one (.fp cs)))=.un:=rfl
theorem zYc {cs:List PV}:zBj (.pv (.agg cs))=.un:=rfl
abbrev shN:Sh:=.sl 5 [.int,.str,.str,.sl 1 [.str],.sl 2 [.str,.str]]
abbrev shE:Sh:=.sl 3 [.int,.str,.sl 1 [.int]]
theorem zTi {k:Nat} {row:List Sh} {x:PV} (h:zAR (.sl k row) x):∃ rows,x=.sl k rows∧rows.length≤9223372036854775807:=by
 simp only [zAR] at h
 obtain ⟨rows,rfl,hl,_⟩:=h
 exact ⟨rows,rfl,hl⟩
theorem yIY {k:Nat} {row:List Sh} {rows:List (List PV)} (h:zAR (.sl k row) (.sl k rows)):rows.length≤9223372036854775807:=by
 obtain ⟨r,e,hl⟩:=zTi h
 injection e with _ e
 rw [e];exact hl
theorem yCb {k i:Nat} {row:List Sh} {rows:List (List PV)} (h:zAR (.sl k row) (.sl k rows)) (hi:i < rows.length):zCj row (rows.getD i []):=by
 simp only [zAR] at h
 obtain ⟨r,e,hl,hr⟩:=h
 injection e with _ e
 subst e
 refine hr _ ?_
 rw [List.getD_eq_getElem?_getD,List.getElem?_eq_getElem hi]
 exact List.getElem_mem hi
theorem yQC {i:Nat} {rows:List (List PV)} (h:zAR shN (.sl 5 rows)) (hi:i < rows.length):∃ n a b rc ra,rows.getD i []=[.v (.int .i64 n),.v (.string a),.v (.string b),.sl 1 rc,.sl 2 ra]∧zAR (.sl 1 [.str]) (.sl 1 rc)∧zAR (.sl 2 [.str,.str]) (.sl 2 ra):=by
 have:=yCb h hi
 simp only [zCj] at this
 obtain ⟨x1,_,e,h1,x2,_,rfl,h2,x3,_,rfl,h3,x4,_,rfl,h4,x5,_,rfl,h5,rfl⟩:=this
 simp only [zAR] at h1 h2 h3
 obtain ⟨n,rfl⟩:=h1
 obtain ⟨a,rfl⟩:=h2
 obtain ⟨b,rfl⟩:=h3
 obtain ⟨rc,rfl,_⟩:=zTi h4
 obtain ⟨ra,rfl,_⟩:=zTi h5
 exact ⟨n,a,b,rc,ra,e,h4,h5⟩
theorem yXq {i:Nat} {rows:List (List PV)} (h:zAR shE (.sl 3 rows)) (hi:i < rows.length):∃ n a rn,rows.getD i []=[.v (.int .i64 n),.v (.string a),.sl 1 rn]∧zAR (.sl 1 [.int]) (.sl 1 rn):=by
 have:=yCb h hi
 simp only [zCj] at this
 obtain ⟨x1,_,e,h1,x2,_,rfl,h2,x3,_,rfl,h3,rfl⟩:=this
 simp only [zAR] at h1 h2
 obtain ⟨n,rfl⟩:=h1
 obtain ⟨a,rfl⟩:=h2
 obtain ⟨rn,rfl,_⟩:=zTi h3
 exact ⟨n,a,rn,e,h3⟩
theorem yZu {i:Nat} {rows:List (List PV)} (h:zAR (.sl 1 [.str]) (.sl 1 rows)) (hi:i < rows.length):∃ a,rows.getD i []=[.v (.string a)]:=by
 have:=yCb h hi
 simp only [zCj] at this
 obtain ⟨x1,_,e,h1,rfl⟩:=this
 simp only [zAR] at h1
 obtain ⟨a,rfl⟩:=h1
 exact ⟨a,e⟩
theorem yZv {i:Nat} {rows:List (List PV)} (h:zAR (.sl 1 [.int]) (.sl 1 rows)) (hi:i < rows.length):∃ a,rows.getD i []=[.v (.int .i64 a)]:=by
 have:=yCb h hi
 simp only [zCj] at this
 obtain ⟨x1,_,e,h1,rfl⟩:=this
 simp only [zAR] at h1
 obtain ⟨a,rfl⟩:=h1
 exact ⟨a,e⟩
theorem yZw {i:Nat} {rows:List (List PV)} (h:zAR (.sl 2 [.str,.str]) (.sl 2 rows)) (hi:i < rows.length):∃ a b,rows.getD i []=[.v (.string a),.v (.string b)]:=by
 have:=yCb h hi
 simp only [zCj] at this
 obtain ⟨x1,_,e,h1,x2,_,rfl,h2,rfl⟩:=this
 simp only [zAR] at h1 h2
 obtain ⟨a,rfl⟩:=h1
 obtain ⟨b,rfl⟩:=h2
 exact ⟨a,b,e⟩
def lj (φ:Nat→Value→Prop) (up at' c:Int) (X Y:PV):List (Nat×Ct):=[(1,.pv (iv up)),(2,.pv (iv at')),(4,.pv (.one (.w (φ 4) .any))),(5,.pv (.one (.w (φ 5) .any))),(8,.pv (.one (.w (φ 8) .any))),(11,.pv (.one (.w (φ 11) .any))),(12,.pv (.one (.w (φ 12) .any))),(13,.ptr 1 0),(14,.pv (iv c)),(304,.pv (.one X)),(305,.pv (.one Y))]
attribute [local go_sem ↓] yTd
theorem yXr (φ:Nat→Value→Prop) (up at' c:Int) (rn re:List (List PV)) (hN:zAR shN (.sl 5 rn)) (hE:zAR shE (.sl 3 re)):
  hwp Tryz.prog yZg (rpN fun F=>∃ rn' re',zAR shN (.sl 5 rn')∧zAR shE (.sl 3 re')∧Le F (fr0 310 (lj φ up at' c (.sl 5 rn') (.sl 3 re')))) (fr0 310 (lj φ up at' c (.sl 5 rn) (.sl 3 re))):=by
 obtain ⟨G,hG⟩:∃ G:List Ct→Prop,G=fun F=>∃ rn' re',zAR shN (.sl 5 rn')∧zAR shE (.sl 3 re')∧Le F (fr0 310 (lj φ up at' c (.sl 5 rn') (.sl 3 re'))):=⟨_,rfl⟩
 rw [←hG]
 unfold fr0 lj
 simp only [List.replicate,zBY,zCA,List.set_cons_succ,List.set_cons_zero]
 try simp (maxSteps:=2000000) only [go_sem,zCF]
 repeat with_reducible refine zAt ?_
 refine zAc (fun s:List (List PV)×List (List PV)×Nat=>[(304,.pv (.one (.sl 5 s.1))),(305,.pv (.one (.sl 3 s.2.1))),(15,.pv (iv s.2.2)),(16,.un),(17,.un),(64,.un),(76,.un),(97,.un)]) (fun s:List (List PV)×List (List PV)×Nat=>9223372036854775807-s.2.2) (fun s:List (List PV)×List (List PV)×Nat=>zAR shN (.sl 5 s.1)∧zAR shE (.sl 3 s.2.1)∧s.2.2≤9223372036854775807) ((rn,re,0)) ?_ ⟨hN,hE,Nat.zero_le _⟩ ?_
 focus (exact leA)
 rintro ⟨rn,re,i⟩ ⟨hN,hE,hi⟩
 simp only at hN hE hi
 have hnl:=yIY hN
 try simp (maxSteps:=2000000) only [go_sem,zCF]
 repeat with_reducible refine zAt ?_
 refine zAa (by rfl) trivial (fun h1=>?_) (fun h1=>?_)
 ·have hil:i < rn.length:=by simpa using h1
  try simp (maxSteps:=2000000) only [go_sem,zCF]
  repeat with_reducible refine zAt ?_
  refine zAc (fun s:List (List PV)×List (List PV)×Nat=>[(304,.pv (.one (.sl 5 s.1))),(305,.pv (.one (.sl 3 s.2.1))),(16,.pv (iv s.2.2)),(76,.un)]) (fun s:List (List PV)×List (List PV)×Nat=>9223372036854775807-s.2.2) (fun s:List (List PV)×List (List PV)×Nat=>zAR shN (.sl 5 s.1)∧zAR shE (.sl 3 s.2.1)∧s.1.length=rn.length∧s.2.2≤9223372036854775807) ((rn,re,0)) ?_ ⟨hN,hE,rfl,Nat.zero_le _⟩ ?_
  focus (exact leA)
  rintro ⟨rn1,re1,k⟩ ⟨hN1,hE1,hl1,hk⟩
  simp only at hN1 hE1 hl1 hk
  obtain ⟨n0,a0,b0,rc,ra,e1,hc,ha⟩:=yQC hN1 (i:=i) (by omega)
  have hcl:=yIY hc
  try simp (maxSteps:=2000000) only [go_sem,e1,zCF]
  repeat with_reducible refine zAt ?_
  refine zAa (by rfl) trivial (fun h2=>?_) (fun h2=>?_)
  ·have hkl:k < rc.length:=by simpa using h2
   obtain ⟨s0,e2⟩:=yZu hc hkl
   try simp (maxSteps:=2000000) only [go_sem,e1,e2,zCF]
   repeat with_reducible refine zAt ?_
   refine yGm (cs:=[.v (.string s0)]) (ss:=[.str]) rfl rfl trivial trivial rfl rfl ⟨_,_,rfl,⟨_,rfl⟩,rfl⟩ rfl rfl hN1 rfl hE1 (fun X' Y' k1 k2 k3 k4=>?_)
   obtain ⟨rn2,rfl,_⟩:=zTi k1
   obtain ⟨re2,rfl,_⟩:=zTi k3
   simp only [List.map_cons,List.map_nil,yLE,zYa,zYb,yVc,yVd,yLF,yLG,zYc,List.set_cons_succ,List.set_cons_zero]
   try simp (maxSteps:=2000000) only [go_sem,zCF]
   repeat with_reducible refine zAt ?_
   refine ⟨(rn2,re2,k+1),by simp only;omega,⟨k1,k3,by simp only;rw [←hl1];exact k2,by simp only;omega⟩,?_⟩
   exact leA
  ·try simp (maxSteps:=2000000) only [go_sem,zCF]
   repeat with_reducible refine zAt ?_
   refine zAc (fun s:List (List PV)×List (List PV)×Nat=>[(304,.pv (.one (.sl 5 s.1))),(305,.pv (.one (.sl 3 s.2.1))),(17,.pv (iv s.2.2)),(97,.un)]) (fun s:List (List PV)×List (List PV)×Nat=>9223372036854775807-s.2.2) (fun s:List (List PV)×List (List PV)×Nat=>zAR shN (.sl 5 s.1)∧zAR shE (.sl 3 s.2.1)∧s.1.length=rn.length∧s.2.2≤9223372036854775807) ((rn1,re1,0)) ?_ ⟨hN1,hE1,hl1,Nat.zero_le _⟩ ?_
   focus (exact leA)
   rintro ⟨rn2,re2,k'⟩ ⟨hN2,hE2,hl2,hk2⟩
   simp only at hN2 hE2 hl2 hk2
   obtain ⟨n3,a3,b3,rc3,ra3,e3,hc3,ha3⟩:=yQC hN2 (i:=i) (by omega)
   have hal:=yIY ha3
   try simp (maxSteps:=2000000) only [go_sem,e3,zCF]
   repeat with_reducible refine zAt ?_
   refine zAa (by rfl) trivial (fun h3=>?_) (fun h3=>?_)
   ·have hkl:k' < ra3.length:=by simpa using h3
    obtain ⟨s0,s1,e4⟩:=yZw ha3 hkl
    try simp (maxSteps:=2000000) only [go_sem,e3,e4,zCF]
    repeat with_reducible refine zAt ?_
    refine yGm (cs:=[.v (.string s0),.v (.string s1)]) (ss:=[.str,.str]) rfl rfl trivial trivial rfl rfl ⟨_,_,rfl,⟨_,rfl⟩,_,_,rfl,⟨_,rfl⟩,rfl⟩ rfl rfl hN2 rfl hE2 (fun X' Y' k1 k2 k3 k4=>?_)
    obtain ⟨rn4,rfl,_⟩:=zTi k1
    obtain ⟨re4,rfl,_⟩:=zTi k3
    simp only [List.map_cons,List.map_nil,yLE,zYa,zYb,yVc,yVd,yLF,yLG,zYc,List.set_cons_succ,List.set_cons_zero]
    try simp (maxSteps:=2000000) only [go_sem,zCF]
    repeat with_reducible refine zAt ?_
    refine ⟨(rn4,re4,k'+1),by simp only;omega,⟨k1,k3,by simp only;rw [←hl2];exact k2,by simp only;omega⟩,?_⟩
    exact leA
   ·try simp (maxSteps:=2000000) only [go_sem,e3,zCF]
    repeat with_reducible refine zAt ?_
    refine yGm (cs:=[.v (.int .i64 n3),.v (.string a3),.v (.string b3),.sl 1 rc3,.sl 2 ra3]) (ss:=[.int,.str,.str,.sl 1 [.str],.sl 2 [.str,.str]]) rfl rfl trivial trivial rfl rfl (e3▸yCb hN2 (by omega)) rfl rfl hN2 rfl hE2 (fun X' Y' k1 k2 k3 k4=>?_)
    obtain ⟨rn4,rfl,_⟩:=zTi k1
    obtain ⟨re4,rfl,_⟩:=zTi k3
    simp only [List.map_cons,List.map_nil,yLE,zYa,zYb,yVc,yVd,yLF,yLG,zYc,List.set_cons_succ,List.set_cons_zero]
    try simp (maxSteps:=2000000) only [go_sem,zCF]
    repeat with_reducible refine zAt ?_
    refine ⟨(rn4,re4,i+1),by simp only;omega,⟨k1,k3,by simp only;omega⟩,?_⟩
    exact leA
 ·try simp (maxSteps:=2000000) only [go_sem,zCF]
  repeat with_reducible refine zAt ?_
  rw [hG]
  refine ⟨rn,re,hN,hE,?_⟩
  unfold fr0 lj
  simp only [List.replicate,zBY,zCA,List.set_cons_succ,List.set_cons_zero]
  exact leA
theorem yXs (φ:Nat→Value→Prop) (up at' c:Int) (rn re:List (List PV)) (hN:zAR shN (.sl 5 rn)) (hE:zAR shE (.sl 3 re)):
  hwp Tryz.prog yZh (rpN fun F=>∃ rn' re',zAR shN (.sl 5 rn')∧zAR shE (.sl 3 re')∧Le F (fr0 310 (lj φ up at' c (.sl 5 rn') (.sl 3 re')))) (fr0 310 (lj φ up at' c (.sl 5 rn) (.sl 3 re))):=by
 obtain ⟨G,hG⟩:∃ G:List Ct→Prop,G=fun F=>∃ rn' re',zAR shN (.sl 5 rn')∧zAR shE (.sl 3 re')∧Le F (fr0 310 (lj φ up at' c (.sl 5 rn') (.sl 3 re'))):=⟨_,rfl⟩
 rw [←hG]
 unfold fr0 lj
 simp only [List.replicate,zBY,zCA,List.set_cons_succ,List.set_cons_zero]
 try simp (maxSteps:=2000000) only [go_sem,zCF]
 repeat with_reducible refine zAt ?_
 refine zAc (fun s:List (List PV)×List (List PV)×Nat=>[(304,.pv (.one (.sl 5 s.1))),(305,.pv (.one (.sl 3 s.2.1))),(18,.pv (iv s.2.2)),(19,.un),(120,.un),(131,.un)]) (fun s:List (List PV)×List (List PV)×Nat=>9223372036854775807-s.2.2) (fun s:List (List PV)×List (List PV)×Nat=>zAR shN (.sl 5 s.1)∧zAR shE (.sl 3 s.2.1)∧s.2.2≤9223372036854775807) ((rn,re,0)) ?_ ⟨hN,hE,Nat.zero_le _⟩ ?_
 focus (exact leA)
 rintro ⟨rn,re,i⟩ ⟨hN,hE,hi⟩
 simp only at hN hE hi
 have hel:=yIY hE
 try simp (maxSteps:=2000000) only [go_sem,zCF]
 repeat with_reducible refine zAt ?_
 refine zAa (by rfl) trivial (fun h1=>?_) (fun h1=>?_)
 ·have hil:i < re.length:=by simpa using h1
  try simp (maxSteps:=2000000) only [go_sem,zCF]
  repeat with_reducible refine zAt ?_
  refine zAc (fun s:List (List PV)×List (List PV)×Nat=>[(304,.pv (.one (.sl 5 s.1))),(305,.pv (.one (.sl 3 s.2.1))),(19,.pv (iv s.2.2)),(131,.un)]) (fun s:List (List PV)×List (List PV)×Nat=>9223372036854775807-s.2.2) (fun s:List (List PV)×List (List PV)×Nat=>zAR shN (.sl 5 s.1)∧zAR shE (.sl 3 s.2.1)∧s.2.1.length=re.length∧s.2.2≤9223372036854775807) ((rn,re,0)) ?_ ⟨hN,hE,rfl,Nat.zero_le _⟩ ?_
  focus (exact leA)
  rintro ⟨rn1,re1,k⟩ ⟨hN1,hE1,hl1,hk⟩
  simp only at hN1 hE1 hl1 hk
  obtain ⟨n0,a0,rs,e1,hs⟩:=yXq hE1 (i:=i) (by omega)
  have hsl:=yIY hs
  try simp (maxSteps:=2000000) only [go_sem,e1,zCF]
  repeat with_reducible refine zAt ?_
  refine zAa (by rfl) trivial (fun h2=>?_) (fun h2=>?_)
  ·have hkl:k < rs.length:=by simpa using h2
   obtain ⟨z0,e2⟩:=yZv hs hkl
   try simp (maxSteps:=2000000) only [go_sem,e1,e2,zCF]
   repeat with_reducible refine zAt ?_
   refine yGm (cs:=[.v (.int .i64 z0)]) (ss:=[.int]) rfl rfl trivial trivial rfl rfl ⟨_,_,rfl,⟨_,rfl⟩,rfl⟩ rfl rfl hN1 rfl hE1 (fun X' Y' k1 k2 k3 k4=>?_)
   obtain ⟨rn2,rfl,_⟩:=zTi k1
   obtain ⟨re2,rfl,_⟩:=zTi k3
   simp only [List.map_cons,List.map_nil,yLE,zYa,zYb,yVc,yVd,yLF,yLG,zYc,List.set_cons_succ,List.set_cons_zero]
   try simp (maxSteps:=2000000) only [go_sem,zCF]
   repeat with_reducible refine zAt ?_
   refine ⟨(rn2,re2,k+1),by simp only;omega,⟨k1,k3,by simp only;rw [←hl1];exact k4,by simp only;omega⟩,?_⟩
   exact leA
  ·try simp (maxSteps:=2000000) only [go_sem,zCF]
   repeat with_reducible refine zAt ?_
   refine ⟨(rn1,re1,i+1),by simp only;omega,⟨hN1,hE1,by simp only;omega⟩,?_⟩
   exact leA
 ·try simp (maxSteps:=2000000) only [go_sem,zCF]
  repeat with_reducible refine zAt ?_
  rw [hG]
  refine ⟨rn,re,hN,hE,?_⟩
  unfold fr0 lj
  simp only [List.replicate,zBY,zCA,List.set_cons_succ,List.set_cons_zero]
  exact leA
end Go.Hx
end

section
set_option maxRecDepth 100000
set_option maxHeartbeats 8000000
namespace Go.Hx
open Go.Proofs
variable [Glob] [GlobL]
attribute [local go_sem] zAh zAj zAg zAd ndV zAm zAn List.length_map zAD zAO zAQ
attribute [local go_sem] reduceCtorEq Nat.reduceAdd Nat.reduceEqDiff reduceIte Nat.reduceLeDiff Nat.reduceLT Nat.reduceSub
theorem ySu {l:List Ts} {i:Nat} (h:PV.fits (.sl 6 (zCJ l))) (hi:i < l.length):PV.fits (.sl 2 (zBx (l.getD i default).list)):=by
 have:=yFy h (by rw [zAQ];exact hi)
 rw [zB4 l i hi,zA1] at this
 simp only [zHd] at this
 exact this.2.2.2.2.2.1
theorem yGs {m:Mem} {u:Value} {R:PV→Prop} (h:∃ x',R x'∧Rp m x' u):∃ x',(R x'∧x'.fits)∧Rp m x' u:=by
 obtain ⟨x',h1,h2⟩:=h
 exact ⟨x',⟨h1,Rp.fits x' u h2⟩,h2⟩
def lk2 (φ:Nat→Value→Prop) (up at' c:Int) (Z:PV):List (Nat×Ct):=[(1,.pv (iv up)),(2,.pv (iv at')),(4,.pv (.one (.w (φ 4) .any))),(5,.pv (.one (.w (φ 5) .any))),(8,.pv (.one (.w (φ 8) .any))),(11,.pv (.one (.w (φ 11) .any))),(12,.pv (.one (.w (φ 12) .any))),(14,.pv (iv c)),(20,.pv (.one Z)),(21,.pv (iv 0))]
attribute [local go_sem ↓] yTd
theorem yOU {P:Go.Program} {Q:Exit→List Ct→Prop} {F F0:List Ct} {a:HCode} {α:Type} (us:α→List (Nat×Ct)) (μ:α→Nat) (inv:α→Prop) (s0:α) (h0:Le F (sets F0 (us s0))) (h1:inv s0)
  (hr:∀ s,inv s→hwp P a (zYq (fun F2=>∃ s',μ s' < μ s∧inv s'∧Le F2 (sets F0 (us s'))) Q) (sets F0 (us s))):hwp P (.loop a) Q F:=
 ⟨fun n F'=>∃ s,μ s=n∧inv s∧F'=sets F0 (us s),⟨μ s0,_,h0,s0,rfl,h1,rfl⟩,by
  rintro n F1 ⟨s,rfl,hs,rfl⟩
  have e:(fun F2=>∃ n' F',n' < μ s∧Le F2 F'∧(fun n F'=>∃ s,μ s=n∧inv s∧F'=sets F0 (us s)) n' F')=(fun F2=>∃ s',μ s' < μ s∧inv s'∧Le F2 (sets F0 (us s'))):=by
   funext F2
   apply propext
   constructor
   ·rintro ⟨n',F',h2,h3,s',rfl,h4,rfl⟩
    exact ⟨s',h2,h4,h3⟩
   ·rintro ⟨s',h2,h3,h4⟩
    exact ⟨_,_,h2,h4,s',rfl,h3,rfl⟩
  rw [e]
  exact hr s hs⟩
def lB8 (φ:Nat→Value→Prop) (up at' c:Int) (i k:Nat):List (Nat×Ct):=[(1,.pv (iv up)),(2,.pv (iv at')),(4,.pv (.one (.w (φ 4) .any))),(5,.pv (.one (.w (φ 5) .any))),(8,.pv (.one (.w (φ 8) .any))),(11,.pv (.one (.w (φ 11) .any))),(12,.pv (.one (.w (φ 12) .any))),(14,.pv (iv c)),(21,.pv (iv 0)),(22,.pv (iv i)),(24,.pv (iv k))]
theorem yZx {Q:Exit→List Ct→Prop} {F:List Ct} (φ:Nat→Value→Prop) (up at' c:Int) (M2:List Pt) (i k:Nat) (hM2:PV.fits (.sl 2 (zBx M2))) (hi2:i < M2.length) (hkl:k < (M2.getD i default).steps.length)
  (hF:Le F (sets (fr0 310 (lB8 φ up at' c i k)) [(20,.pv (.one (.sl 2 (zBx M2)))),(25,.pv (iv (0:Nat)))]))
  (hQ:∀ (M3:List Pt) (j:Nat) (b:Bool),PV.fits (.sl 2 (zBx M3))→M3.length=M2.length→(M3.getD i default).steps.length=(M2.getD i default).steps.length→Q (.exit 16) (sets (fr0 310 (lB8 φ up at' c i k)) [(20,.pv (.one (.sl 2 (zBx M3)))),(25,.pv (iv j)),(191,.pv (bv b))])):hwp Tryz.prog yZM Q F:=by
 refine yOU (F0:=fr0 310 (lB8 φ up at' c i k)) (fun s:List Pt×Nat=>[(20,.pv (.one (.sl 2 (zBx s.1)))),(25,.pv (iv s.2))]) (fun s=>9223372036854775807-s.2) (fun s=>PV.fits (.sl 2 (zBx s.1))∧s.1.length=M2.length∧(s.1.getD i default).steps.length=(M2.getD i default).steps.length∧s.2≤9223372036854775807) (M2,0) hF ⟨hM2,rfl,rfl,Nat.zero_le _⟩ ?_
 unfold fr0 lB8
 simp only [List.replicate,zBY,zCA,List.set_cons_succ,List.set_cons_zero]
 rintro ⟨M3,j⟩ ⟨hM3,hl3,hs3,hj⟩
 simp only at hM3 hl3 hs3 hj
 have hi3:i < M3.length:=by omega
 have hk3:k < (M3.getD i default).steps.length:=by omega
 have e4:=zBH M3 i hi3
 rw [zA2] at e4
 have e5:=zCB (M3.getD i default).steps k hk3
 rw [zBg] at e5
 have hf3:=zNY (zJa hM3 hi3).1 hk3
 have htl:=zW6 hf3
 try simp (maxSteps:=2000000) only [go_sem,e4,e5,zAn]
 repeat with_reducible refine zAt ?_
 refine zAa (by rfl) trivial (fun h4=>?_) (fun h4=>?_)
 ·have hjl:j < ((M3.getD i default).steps.getD k default).tests.length:=by simpa using h4
  try simp (maxSteps:=2000000) only [go_sem,zAn]
  repeat with_reducible refine zAt ?_
  refine zAc (fun s:List Pt×Nat=>[(20,.pv (.one (.sl 2 (zBx s.1)))),(26,.pv (iv s.2)),(209,.un)]) (fun s:List Pt×Nat=>9223372036854775807-s.2) (fun s:List Pt×Nat=>PV.fits (.sl 2 (zBx s.1))∧s.1.length=M2.length∧(s.1.getD i default).steps.length=(M2.getD i default).steps.length∧((s.1.getD i default).steps.getD k default).tests.length=((M3.getD i default).steps.getD k default).tests.length∧s.2≤9223372036854775807) ((M3,0)) ?_ ⟨hM3,hl3,hs3,rfl,Nat.zero_le _⟩ ?_
  focus (exact leA)
  rintro ⟨M4,q⟩ ⟨hM4,hl4,hs4,ht4,hq⟩
  simp only at hM4 hl4 hs4 ht4 hq
  have hi4:i < M4.length:=by omega
  have hk4:k < (M4.getD i default).steps.length:=by omega
  have hj4:j < ((M4.getD i default).steps.getD k default).tests.length:=by omega
  have e6:=zBH M4 i hi4
  rw [zA2] at e6
  have e7:=zCB (M4.getD i default).steps k hk4
  rw [zBg] at e7
  have e8:=zB4 ((M4.getD i default).steps.getD k default).tests j hj4
  rw [zA1] at e8
  have hf4:=ySu (zNY (zJa hM4 hi4).1 hk4) hj4
  have hpl:=zPq hf4
  try simp (maxSteps:=2000000) only [go_sem,e6,e7,e8,zAn]
  repeat with_reducible refine zAt ?_
  refine zAa (by rfl) trivial (fun h5=>?_) (fun h5=>?_)
  ·have hql:q < (((M4.getD i default).steps.getD k default).tests.getD j default).list.length:=by simpa using h5
   have e9:=zBH (((M4.getD i default).steps.getD k default).tests.getD j default).list q hql
   rw [zA2] at e9
   try simp (maxSteps:=2000000) only [go_sem,e6,e7,e8,e9,zAn]
   repeat with_reducible refine zAt ?_
   refine yLD (R:=fun x'=>(∃ L':List Pt,x'=.sl 2 (zBx L')∧L'.length=M4.length∧(L'.getD i default).steps.length=(M4.getD i default).steps.length∧((L'.getD i default).steps.getD k default).tests.length=((M4.getD i default).steps.getD k default).tests.length∧(((L'.getD i default).steps.getD k default).tests.getD j default).list.length=(((M4.getD i default).steps.getD k default).tests.getD j default).list.length)∧x'.fits) rfl rfl trivial trivial rfl rfl rfl
    (fun m b o u us vs h1 h2 h3 h4=>yGs (yOS hi4 hk4 hj4 hql b o u us vs h1 (by rw [zA2];exact h2) h3 h4)) (fun X' hX=>?_)
   obtain ⟨⟨M5,rfl,hl5,hs5,ht5,_⟩,hf5⟩:=hX
   simp only [List.map_cons,List.map_nil,yLE,zYa,zYb,yVc,yVd,yLF,yLG,zYc,List.set_cons_succ,List.set_cons_zero]
   try simp (maxSteps:=2000000) only [go_sem,zAn]
   repeat with_reducible refine zAt ?_
   refine ⟨(M5,q+1),by simp only;omega,⟨hf5,by simp only;omega,by simp only;omega,by simp only;omega,by simp only;omega⟩,?_⟩
   exact leA
  ·try simp (maxSteps:=2000000) only [go_sem,e6,e7,e8,zAn]
   repeat with_reducible refine zAt ?_
   refine yLD (R:=fun x'=>(∃ L':List Pt,x'=.sl 2 (zBx L')∧L'.length=M4.length∧(L'.getD i default).steps.length=(M4.getD i default).steps.length∧((L'.getD i default).steps.getD k default).tests.length=((M4.getD i default).steps.getD k default).tests.length)∧x'.fits) rfl rfl trivial trivial rfl rfl rfl
    (fun m b o u us vs h1 h2 h3 h4=>yGs (yOT hi4 hk4 hj4 b o u us vs h1 (by rw [zA1];exact h2) h3 h4)) (fun X' hX=>?_)
   obtain ⟨⟨M5,rfl,hl5,hs5,ht5⟩,hf5⟩:=hX
   simp only [List.map_cons,List.map_nil,yLE,zYa,zYb,yVc,yVd,yLF,yLG,zYc,List.set_cons_succ,List.set_cons_zero]
   try simp (maxSteps:=2000000) only [go_sem,zAn]
   repeat with_reducible refine zAt ?_
   refine ⟨(M5,j+1),by simp only;omega,⟨hf5,by simp only;omega,by simp only;omega,by simp only;omega⟩,?_⟩
   exact leA
 ·try simp (maxSteps:=2000000) only [go_sem,zAn]
  repeat with_reducible refine zAt ?_
  have:=hQ M3 j (decide ((j:Int) < (((M3.getD i default).steps.getD k default).tests.length:Int))) hM3 hl3 hs3
  unfold fr0 lB8 at this
  simp only [List.replicate,zBY,zCA,List.set_cons_succ,List.set_cons_zero] at this
  exact this
theorem yXx (φ:Nat→Value→Prop) (up at' c:Int) (M:List Pt) (hM:PV.fits (.sl 2 (zBx M))):
  hwp Tryz.prog yZj (rpN fun F=>∃ M',Le F (fr0 310 (lk2 φ up at' c (.sl 2 (zBx M'))))) (fr0 310 (lk2 φ up at' c (.sl 2 (zBx M)))):=by
 obtain ⟨G,hG⟩:∃ G:List Ct→Prop,G=fun F=>∃ M',Le F (fr0 310 (lk2 φ up at' c (.sl 2 (zBx M')))):=⟨_,rfl⟩
 rw [←hG]
 unfold fr0 lk2
 simp only [List.replicate,zBY,zCA,List.set_cons_succ,List.set_cons_zero]
 try simp (maxSteps:=2000000) only [go_sem,zCF]
 repeat with_reducible refine zAt ?_
 refine zAc (fun s:List Pt×Nat=>[(20,.pv (.one (.sl 2 (zBx s.1)))),(22,.pv (iv s.2)),(23,.un),(24,.un),(25,.un),(26,.un),(150,.un),(160,.un),(177,.un),(191,.un),(209,.un)]) (fun s:List Pt×Nat=>9223372036854775807-s.2) (fun s:List Pt×Nat=>PV.fits (.sl 2 (zBx s.1))∧s.2≤9223372036854775807) ((M,0)) ?_ ⟨hM,Nat.zero_le _⟩ ?_
 focus (exact leA)
 rintro ⟨M,i⟩ ⟨hM,hi⟩
 simp only at hM hi
 have hml:=zPq hM
 try simp (maxSteps:=2000000) only [go_sem,zCF]
 repeat with_reducible refine zAt ?_
 refine zAa (by rfl) trivial (fun h1=>?_) (fun h1=>?_)
 ·have hil:i < M.length:=by simpa using h1
  try simp (maxSteps:=2000000) only [go_sem,zCF]
  repeat with_reducible refine zAt ?_
  refine zAc (fun s:List Pt×Nat=>[(20,.pv (.one (.sl 2 (zBx s.1)))),(23,.pv (iv s.2)),(160,.un)]) (fun s:List Pt×Nat=>9223372036854775807-s.2) (fun s:List Pt×Nat=>PV.fits (.sl 2 (zBx s.1))∧s.1.length=M.length∧s.2≤9223372036854775807) ((M,0)) ?_ ⟨hM,rfl,Nat.zero_le _⟩ ?_
  focus (exact leA)
  rintro ⟨M1,k⟩ ⟨hM1,hl1,hk⟩
  simp only at hM1 hl1 hk
  have hi1:i < M1.length:=by omega
  have e1:=zBH M1 i hi1
  rw [zA2] at e1
  have hll:=yP9 (zJa hM1 hi1).2
  try simp (maxSteps:=2000000) only [go_sem,e1,zCF]
  repeat with_reducible refine zAt ?_
  refine zAa (by rfl) trivial (fun h2=>?_) (fun h2=>?_)
  ·have hkl:k < (M1.getD i default).links.length:=by simpa using h2
   have e2:=zDc (M1.getD i default).links k hkl
   try simp (maxSteps:=2000000) only [go_sem,e1,e2,zCF]
   repeat with_reducible refine zAt ?_
   refine yLD (R:=fun x'=>(∃ L':List Pt,x'=.sl 2 (zBx L')∧L'.length=M1.length)∧x'.fits) rfl rfl trivial trivial rfl rfl rfl (fun m b o u us vs h1 h2 h3 h4=>yGs (yQG b o u us vs h1 h2 h3 h4)) (fun X' hX=>?_)
   obtain ⟨⟨M2,rfl,hl2⟩,hf2⟩:=hX
   simp only [List.map_cons,List.map_nil,yLE,zYa,zYb,yVc,yVd,yLF,yLG,zYc,List.set_cons_succ,List.set_cons_zero]
   try simp (maxSteps:=2000000) only [go_sem,zCF]
   repeat with_reducible refine zAt ?_
   refine ⟨(M2,k+1),by simp only;omega,⟨hf2,by simp only;omega,by simp only;omega⟩,?_⟩
   exact leA
  ·try simp (maxSteps:=2000000) only [go_sem,zCF]
   repeat with_reducible refine zAt ?_
   refine zAc (fun s:List Pt×Nat=>[(20,.pv (.one (.sl 2 (zBx s.1)))),(24,.pv (iv s.2)),(23,.un),(150,.un),(160,.un),(25,.un),(26,.un),(177,.un),(191,.un),(209,.un)]) (fun s:List Pt×Nat=>9223372036854775807-s.2) (fun s:List Pt×Nat=>PV.fits (.sl 2 (zBx s.1))∧s.1.length=M.length∧s.2≤9223372036854775807) ((M1,0)) ?_ ⟨hM1,hl1,Nat.zero_le _⟩ ?_
   focus (exact leA)
   rintro ⟨M2,k⟩ ⟨hM2,hl2,hk⟩
   simp only at hM2 hl2 hk
   have hi2:i < M2.length:=by omega
   have e3:=zBH M2 i hi2
   rw [zA2] at e3
   have hf2:=(zJa hM2 hi2).1
   have hsl:=zKK hf2
   try simp (maxSteps:=2000000) only [go_sem,e3,zCF]
   repeat with_reducible refine zAt ?_
   refine zAa (by rfl) trivial (fun h3=>?_) (fun h3=>?_)
   ·have hkl:k < (M2.getD i default).steps.length:=by simpa using h3
    try simp (maxSteps:=2000000) only [go_sem,zCF]
    repeat with_reducible refine zAt ?_
    refine yZx φ up at' c M2 i k hM2 hi2 hkl ?_ (fun M3 j b hM3 hl3 hs3=>?_)
    ·unfold fr0 lB8
     simp only [List.replicate,zBY,zCA,List.set_cons_succ,List.set_cons_zero]
     exact leA
    ·unfold fr0 lB8
     simp only [List.replicate,zBY,zCA,List.set_cons_succ,List.set_cons_zero]
     try simp (maxSteps:=2000000) only [go_sem,zCF]
     repeat with_reducible refine zAt ?_
     refine ⟨(M3,k+1),by simp only;omega,⟨hM3,by simp only;omega,by simp only;omega⟩,?_⟩
     exact leA
   ·try simp (maxSteps:=2000000) only [go_sem,zCF]
    repeat with_reducible refine zAt ?_
    refine ⟨(M2,i+1),by simp only;omega,⟨hM2,by simp only;omega⟩,?_⟩
    exact leA
 ·try simp (maxSteps:=2000000) only [go_sem,zCF]
  repeat with_reducible refine zAt ?_
  rw [hG]
  refine ⟨M,?_⟩
  unfold fr0 lk2
  simp only [List.replicate,zBY,zCA,List.set_cons_succ,List.set_cons_zero]
  exact leA
end Go.Hx
end

section
set_option maxRecDepth 100000
set_option maxHeartbeats 4000000
namespace Go.Hx
open Go.Proofs
attribute [local go_sem] zAh zAj zAg zAd ndV zAm zAn
section
variable [Glob]
theorem yXy (l:List Bys):FDR Glob.n (yCG l) (yCG l):=FDR.map (f:=fun c=>[bS c]) (g:=fun c=>[bS c]) l fun x _=>⟨FD.v _,trivial⟩
theorem yXz (l:List (Bys×Bys)):FDR Glob.n (yCH l) (yCH l):=FDR.map (f:=fun c=>[bS c.1,bS c.2]) (g:=fun c=>[bS c.1,bS c.2]) l fun x _=>⟨FD.v _,FD.v _,trivial⟩
theorem yQH (l:List Int):FDR Glob.n (zAM l) (zAM l):=FDR.map (f:=fun c=>[bI c]) (g:=fun c=>[bI c]) l fun x _=>⟨FD.v _,trivial⟩
theorem yXA (l:List Nd):FD Glob.n (fr (.sl 5 (yI4 l))) (.sl 5 (zDW l)):=FD.sl (FDR.map l fun x _=>⟨FD.v _,FD.v _,FD.v _,FD.sl (yXy _),FD.sl (yXz _),trivial⟩)
theorem yVf (l:List Ent):FD Glob.n (fr (.sl 3 (zFi l))) (.sl 3 (zEf l)):=FD.sl (FDR.map l fun x _=>⟨FD.v _,FD.v _,FD.sl (yQH _),trivial⟩)
mutual
theorem yZy:∀ t:Ts,FDL Glob.n (tsG t) (tsV t)
 |.mk k n v a b l=>⟨FD.v _,FD.v _,FD.v _,FD.v _,FD.v _,FD.sl (yQI l),trivial⟩
theorem yTe:∀ l:List Ts,FDR Glob.n (zJI l) (zCJ l)
 |[]=>trivial
 |t::r=>⟨yZy t,yTe r⟩
theorem yZz:∀ t:St,FDL Glob.n (stG t) (stV t)
 |.mk t l=>⟨FD.v _,FD.sl (yTe l),trivial⟩
theorem yTf:∀ l:List St,FDR Glob.n (yI6 l) (zFG l)
 |[]=>trivial
 |t::r=>⟨yZz t,yTf r⟩
theorem yZA:∀ t:Pt,FDL Glob.n (ptG t) (ptV t)
 |.mk s l=>⟨FD.sl (yTf s),FD.sl (yQH l),trivial⟩
theorem yQI:∀ l:List Pt,FDR Glob.n (zOw l) (zBx l)
 |[]=>trivial
 |t::r=>⟨yZA t,yQI r⟩
end
end
theorem yIZ {α:Type} {k:Nat} {row:List Sh} {f:α→List PV} (hf:∀ x,zHd (f x)→zCj row (f x)) {l:List α} (h:PV.fits (.sl k (l.map f))):zAR (.sl k row) (.sl k (l.map f)):=by
 simp only [PV.fits] at h
 simp only [zAR]
 refine ⟨_,rfl,h.1,?_⟩
 have key:∀ l:List α,zQR (l.map f)→∀ r∈l.map f,zCj row r:=by
  intro l
  induction l with
  |nil=>intro _ r hr;cases hr
  |cons x l ih=>
   intro hl r hr
   simp only [List.map_cons,zQR] at hl
   rcases List.mem_cons.1 hr with rfl|hr
   ·exact hf x hl.1
   ·exact ih hl.2 r hr
 exact key l h.2
theorem zYe:zCj [] []:=by simp only [zCj]
theorem zDV {s:Sh} {ss:List Sh} {x:PV} {xs:List PV} (h:zAR s x) (h':zCj ss xs):zCj (s::ss) (x::xs):=by simp only [zCj];exact ⟨x,xs,rfl,h,h'⟩
theorem yOV (l:Bys):zAR .str (bS l):=by simp only [zAR];exact ⟨_,rfl⟩
theorem yVg (n:Int):zAR .int (bI n):=by simp only [zAR];exact ⟨_,rfl⟩
theorem yXB {l:List Nd} (h:PV.fits (.sl 5 (zDW l))):zAR shN (.sl 5 (zDW l)):=
 yIZ (f:=ndV) (fun x hx=>by
  unfold ndV at hx
  simp only [zHd] at hx
  exact zDV (yVg _) (zDV (yOV _) (zDV (yOV _) (zDV (yIZ (f:=fun c=>[bS c]) (fun c _=>zDV (yOV _) zYe) hx.2.2.2.1) (zDV (yIZ (f:=fun (c:Bys×Bys)=>[bS c.1,bS c.2]) (fun c _=>zDV (yOV _) (zDV (yOV _) zYe)) hx.2.2.2.2.1) zYe))))) h
theorem yVh {l:List Ent} (h:PV.fits (.sl 3 (zEf l))):zAR shE (.sl 3 (zEf l)):=
 yIZ (f:=entV) (fun x hx=>by
  unfold entV at hx
  simp only [zHd] at hx
  exact zDV (yVg _) (zDV (yOV _) (zDV (yIZ (f:=fun c=>[bI c]) (fun c _=>zDV (yVg _) zYe) hx.2.2.1) zYe))) h
theorem yOW:∀ (j:Nat) (bn:Nat×Nat),xBU.Γ[j]?=some bn→xBU.N≤bn.1∧bn.1+bn.2≤xBU.L:=by
 intro j bn h
 match j,h with
 |0,h=>simp at h;subst h;decide
 |1,h=>simp at h;subst h;decide
 |2,h=>simp at h;subst h;decide
 |3,h=>simp at h;subst h;decide
 |j+4,h=>simp at h
section
variable [Glob]
theorem yGt:xBU.Wf:=Env.wf_of_ok (Bool.and_eq_true_iff.1 yZN).1
theorem yQJ (jf:Bool) {S:Start} (hS:jf=true→∀ b o,S.m0 b o=none) {c:Code} {h:HCode} {G:List Ct→Prop} {F:List Ct} {a:Act} {w:World} (hk:zBM jf Tryz.prog xBU c h=true) (hW:hwp Tryz.prog h (rpN G) F) (hI:Inv xBU S F a w):c.wp Tryz.prog (fun e a w=>e=.normal∧∃ F',G F'∧Inv xBU S F' a w) a w:=by
 refine wp_mono (zUi jf yGt hS c h _ _ _ _ hk hW hI) ?_
 rintro e a w ⟨F',hq,hi⟩
 cases e with
 |normal=>exact ⟨rfl,F',hq,hi⟩
 |exit id=>exact hq.elim
 |ret=>exact hq.elim
 |goto t=>exact hq.elim
 |panic ch=>exact hq.elim
 |outgrown=>exact hq.elim
theorem yGu {E:Env} (wf:E.Wf) {S:Start} {F:List Ct} {a:Act} {w:World} (h:Inv E S F a w) {r j base:Nat} (hr:zB5 E r j base=true) {x:PV} (hx:F.getD r .un=.pv (.one x)):x.fits:=by
 obtain ⟨m,β,ow,h⟩:=h
 obtain ⟨u,_,h2⟩:=yPp wf h hr hx
 exact Rp.fits x u h2
theorem yM3 {E:Env} {S:Start} {F F':List Ct} {a:Act} {w:World} (h:Inv E S F a w) (hl:Le F F'):Inv E S F' a w:=by
 obtain ⟨m,β,ow,h⟩:=h
 exact ⟨m,β,ow,h.le hl⟩
theorem yGv {E:Env} {S:Start} (wf:E.Wf) {x y:Code} {hx hy:HCode} {F:List Ct} {a:Act} {w:World} {QA:Exit→List Ct→Prop} {Q:Exit→Act→World→Prop} (hk:zMR Tryz.prog E x hx=true) (hW:hwp Tryz.prog (.seq hx hy) QA F) (hI:Inv E S F a w)
  (hn:∀ F a w,hwp Tryz.prog hy QA F→Inv E S F a w→y.wp Tryz.prog Q a w) (ho:∀ e F a w,e≠.normal→QA e F→Inv E S F a w→Q e a w):(Code.seq x y).wp Tryz.prog Q a w:=by
 refine wp_seq (wp_mono (zHc wf x hx _ _ _ _ hk hW hI) ?_)
 rintro e a w ⟨F',hq,hi⟩
 cases e with
 |normal=>exact hn F' a w hq hi
 |exit id=>exact ho _ F' a w (by simp) hq hi
 |ret=>exact ho _ F' a w (by simp) hq hi
 |goto t=>exact ho _ F' a w (by simp) hq hi
 |panic ch=>exact ho _ F' a w (by simp) hq hi
 |outgrown=>exact ho _ F' a w (by simp) hq hi
theorem zOu {x y:Code} {a:Act} {w:World} {R:Act→World→Prop} {Q:Exit→Act→World→Prop} (hx:x.wp Tryz.prog (fun e a w=>e=.normal∧R a w) a w) (hy:∀ a w,R a w→y.wp Tryz.prog Q a w):(Code.seq x y).wp Tryz.prog Q a w:=by
 refine wp_seq (wp_mono hx ?_)
 rintro e a w ⟨rfl,h⟩
 exact hy a w h
end
section
variable [G:Glob] [GlobL]
theorem ySv {S:Start} {a:Act} {w:World} {d:List Nd} {up at':Int} {e:List Nd} {l:List Pt} (hd:zAl d=0) (hI:Inv xBU S (fr0 310 (lA d up at' e l)) a w) {c5 cL1 cL2 Y:Code} (k5:zMR Tryz.prog xBU c5 rp5=true) (k1:zBM true Tryz.prog xBU cL1 yZg=true) (k2:zBM true Tryz.prog xBU cL2 yZh=true)
  {Q:Exit→Act→World→Prop} (hY:∀ a w,Inv xBU S (fr0 310 (lA d up at' e l++[(14,.pv (iv (zEz d up at' e)))])) a w→Y.wp Tryz.prog Q a w):(Code.seq c5 (Code.seq cL1 (Code.seq cL2 Y))).wp Tryz.prog Q a w:=by
 obtain ⟨m,β,ow,hG⟩:=hI
 have f1:=yCa (E:=xBU) (by decide) rfl hG (fun q hq=>by
  simp only [lA,List.mem_cons,List.not_mem_nil,or_false] at hq
  rcases hq with rfl|rfl|rfl|rfl|rfl|rfl|rfl<;>exact Nat.le_of_ble_eq_true rfl) yOW
 have f1':@Inv (gAt G w.heap.size) xBU (stA G m w hG.glob S.d0) (fr0 310 (lXx (exP a) d up at' e l [])) a w:=f1
 refine zOu (@yQJ (gAt G w.heap.size) false _ (fun h=>by cases h) _ _ _ _ _ _ k5 (@yZs (gAt G w.heap.size) (yXk G _) (exP a) d up at' e l hd) f1') ?_
 rintro a2 w2 ⟨F2,⟨g1,g2,⟨_,g4⟩,⟨_,g5⟩,⟨_,g8⟩,⟨_,g11⟩,⟨_,g12⟩,g13,g14,g304,g305⟩,h2⟩
 obtain ⟨D,I,hD,hE⟩:∃ (D:List Nd) (I:List Ent),FD (gAt G w.heap.size).n (if zEz d up at' e=0 then @fr (gAt G w.heap.size) (.sl 5 (@yI4 (gAt G w.heap.size) (yI5 d up at' e))) else .sl 5 []) (.sl 5 (zDW D))∧FD (gAt G w.heap.size).n (if zEz d up at' e=0 then @fr (gAt G w.heap.size) (.sl 3 (@zFi (gAt G w.heap.size) (zBF (yI5 d up at' e)))) else .sl 3 []) (.sl 3 (zEf I)):=by
  by_cases h0:zEz d up at' e=0
  ·rw [if_pos h0,if_pos h0]
   exact ⟨_,_,@yXA (gAt G w.heap.size) _,@yVf (gAt G w.heap.size) _⟩
  ·rw [if_neg h0,if_neg h0]
   exact ⟨[],[],FD.sl0,FD.sl0⟩
 have h3:=yIX (E:=xBU) (lj:=lj (exP a) up at' (zEz d up at' e) (.sl 5 (zDW D)) (.sl 3 (zEf I))) (by decide) rfl yOW h2 (fun q hq=>by
  simp only [lj,List.mem_cons,List.not_mem_nil,or_false] at hq
  rcases hq with rfl|rfl|rfl|rfl|rfl|rfl|rfl|rfl|rfl|rfl|rfl
  ·rw [g1];exact .free _ rfl
  ·rw [g2];exact .free _ rfl
  ·rw [g4];exact .any _ _
  ·rw [g5];exact .any _ _
  ·rw [g8];exact .any _ _
  ·rw [g11];exact .any _ _
  ·rw [g12];exact .any _ _
  ·rw [g13];exact .free _ rfl
  ·rw [g14];exact .free _ rfl
  ·rw [g304];exact .jk _ _ hD
  ·rw [g305];exact .jk _ _ hE)
 have s1:=yXB (@yGu (gAt G w.heap.size) _ yGt _ _ _ _ h3 304 1 304 rfl (.sl 5 (zDW D)) rfl)
 have s2:=yVh (@yGu (gAt G w.heap.size) _ yGt _ _ _ _ h3 305 1 304 rfl (.sl 3 (zEf I)) rfl)
 refine zOu (@yQJ (gAt G w.heap.size) true _ (fun _ _ _=>rfl) _ _ _ _ _ _ k1 (@yXr (gAt G w.heap.size) (yXk G _) (exP a) up at' (zEz d up at' e) _ _ s1 s2) h3) ?_
 rintro a4 w4 ⟨F4,⟨rn,re,t1,t2,hle⟩,h4⟩
 have h5:=@yM3 (gAt G w.heap.size) _ _ _ _ _ _ h4 hle
 refine zOu (@yQJ (gAt G w.heap.size) true _ (fun _ _ _=>rfl) _ _ _ _ _ _ k2 (@yXs (gAt G w.heap.size) (yXk G _) (exP a) up at' (zEz d up at' e) _ _ t1 t2) h5) ?_
 rintro a6 w6 ⟨F6,⟨rn2,re2,_,_,hle2⟩,h6⟩
 have h7:=@yM3 (gAt G w.heap.size) _ _ _ _ _ _ h6 hle2
 refine hY a6 w6 (yMZ (E:=xBU) (by decide) rfl yOW hG h7 (fun q hq=>?_) (fun q hq=>?_))
 ·simp only [lA,List.mem_cons,List.not_mem_nil,or_false] at hq
  rcases hq with rfl|rfl|rfl|rfl|rfl|rfl|rfl<;>exact ⟨Nat.le_of_ble_eq_true rfl,rfl,rfl⟩
 ·rw [List.mem_singleton] at hq
  subst hq
  exact ⟨Nat.le_of_ble_eq_true rfl,⟨_,rfl⟩,rfl⟩
theorem ySw {S:Start} {a:Act} {w:World} {d:List Nd} {up at' c:Int} {e:List Nd} {l:List Pt} (hl:zCK l=0) (hI:Inv xBU S (fr0 310 (lA d up at' e l++[(14,.pv (iv c))])) a w) {c25 cL3 Y:Code} (k25:zMR Tryz.prog xBU c25 yZi=true) (k3:zBM true Tryz.prog xBU cL3 yZj=true)
  {Q:Exit→Act→World→Prop} (hY:∀ a w,Inv xBU S (fr0 310 (lA d up at' e l++[(14,.pv (iv c))]++[(21,.pv (iv 0))])) a w→Y.wp Tryz.prog Q a w):(Code.seq c25 (Code.seq cL3 Y)).wp Tryz.prog Q a w:=by
 obtain ⟨m,β,ow,hG⟩:=hI
 have f1:=yCa (E:=xBU) (by decide) rfl hG (fun q hq=>by
  simp only [lA,List.cons_append,List.nil_append,List.mem_cons,List.not_mem_nil,or_false] at hq
  rcases hq with rfl|rfl|rfl|rfl|rfl|rfl|rfl|rfl<;>exact Nat.le_of_ble_eq_true rfl) yOW
 have f1':@Inv (gAt G w.heap.size) xBU (stA G m w hG.glob S.d0) (fr0 310 (lXx (exP a) d up at' e l [(14,.pv (iv c))])) a w:=f1
 refine zOu (@yQJ (gAt G w.heap.size) false _ (fun h=>by cases h) _ _ _ _ _ _ k25 (@yXp (gAt G w.heap.size) (yXk G _) (exP a) d up at' c e l hl) f1') ?_
 rintro a2 w2 ⟨F2,⟨g1,g2,⟨_,g4⟩,⟨_,g5⟩,⟨_,g8⟩,⟨_,g11⟩,⟨_,g12⟩,g14,g20,g21⟩,h2⟩
 have h3:=yIX (E:=xBU) (lj:=lk2 (exP a) up at' c (.sl 2 (zBx (plL l)))) (by decide) rfl yOW h2 (fun q hq=>by
  simp only [lk2,List.mem_cons,List.not_mem_nil,or_false] at hq
  rcases hq with rfl|rfl|rfl|rfl|rfl|rfl|rfl|rfl|rfl|rfl
  ·rw [g1];exact .free _ rfl
  ·rw [g2];exact .free _ rfl
  ·rw [g4];exact .any _ _
  ·rw [g5];exact .any _ _
  ·rw [g8];exact .any _ _
  ·rw [g11];exact .any _ _
  ·rw [g12];exact .any _ _
  ·rw [g14];exact .free _ rfl
  ·rw [g20];exact .jk _ _ (FD.sl (@yQI (gAt G w.heap.size) _))
  ·rw [g21];exact .free _ rfl)
 have s1:=@yGu (gAt G w.heap.size) _ yGt _ _ _ _ h3 20 0 0 rfl (.sl 2 (zBx (plL l))) rfl
 refine zOu (@yQJ (gAt G w.heap.size) true _ (fun _ _ _=>rfl) _ _ _ _ _ _ k3 (@yXx (gAt G w.heap.size) (yXk G _) (exP a) up at' c _ s1) h3) ?_
 rintro a4 w4 ⟨F4,⟨M',hle⟩,h4⟩
 have h5:=@yM3 (gAt G w.heap.size) _ _ _ _ _ _ h4 hle
 refine hY a4 w4 (yMZ (E:=xBU) (by decide) rfl yOW hG h5 (fun q hq=>?_) (fun q hq=>?_))
 ·simp only [lA,List.cons_append,List.nil_append,List.mem_cons,List.not_mem_nil,or_false] at hq
  rcases hq with rfl|rfl|rfl|rfl|rfl|rfl|rfl|rfl<;>exact ⟨Nat.le_of_ble_eq_true rfl,rfl,rfl⟩
 ·rw [List.mem_singleton] at hq
  subst hq
  exact ⟨Nat.le_of_ble_eq_true rfl,⟨_,rfl⟩,rfl⟩
theorem zYf (d:List Nd) (ix:List Ent) (up at':Int) (e:List Nd) (l:List Pt):Contract Tryz.prog zJr [.val (zEw d ix),.val (iv up),.val (iv at'),.val (zB6 e),.val (zBZ l)] {res:=.val (bv true)}:=by
 show Contract Tryz.prog zJr (yVb d ix up at' e l) {res:=.val (bv true)}
 refine zJm (fn:=Tryz.f6) (c:=Tryz.f6.body.getD .skip) (by kernel_rfl) (by kernel_rfl) (by kernel_rfl) yZN (by kernel_rfl) yZY (base:=0) ⟨Nat.le_of_ble_eq_true rfl,Nat.le_of_ble_eq_true rfl,Nat.le_of_ble_eq_true rfl,rfl⟩ (fun _ S a w hI=>?_)
 rw [yZq]
 have hx:∀ (e':Exit) (F:List Ct) (a':Act) (w':World),e'≠.normal→rpQ (yVb d ix up at' e l) (fun F=>zD0 d ix=0∧zCK l=0∧Le F (fr0 310 (lA d up at' e l))) e' F→Inv xBU S F a' w'→zQQ xBU S (yGw xBU 0 (yVb d ix up at' e l) zDl {res:=.val (bv true)}) e' a' w':=by
  intro e' F a' w' hne hq hi
  cases e' with
  |normal=>exact absurd rfl hne
  |exit id=>exact hq.elim
  |goto t=>exact hq.elim
  |panic ch=>exact hq.elim
  |outgrown=>exact hq.elim
  |ret=>exact ⟨F,hq,hi⟩
 refine yGv yGt yZk (yZr d ix up at' e l) hI (fun F1 a1 w1 hW1 hI1=>yGv yGt yZl hW1 hI1 (fun F2 a2 w2 hW2 hI2=>yGv yGt yZm hW2 hI2 (fun F3 a3 w3 hW3 hI3=>?_) hx) hx) hx
 refine wp_seq (wp_mono (zHc yGt _ _ _ _ _ _ yZn hW3 hI3) ?_)
 rintro e' a' w' ⟨F',hq,hi⟩
 cases e' with
 |exit id=>exact hx _ F' a' w' (by simp) hq hi
 |ret=>exact hx _ F' a' w' (by simp) hq hi
 |goto t=>exact hx _ F' a' w' (by simp) hq hi
 |panic ch=>exact hx _ F' a' w' (by simp) hq hi
 |outgrown=>exact hx _ F' a' w' (by simp) hq hi
 |normal=>
  obtain ⟨hp,hl,hle⟩:=hq
  refine ySv (yGl hp).1 (yM3 hi hle) yZo yXl yXm (fun a5 w5 h5=>?_)
  refine ySw hl h5 yXn yXo (fun a6 w6 h6=>?_)
  exact zHc yGt _ _ _ _ _ _ yZp (yZt d up at' e l (yVb d ix up at' e l) rfl (yGl hp).1 hl) h6
end
end Go.Hx
end
