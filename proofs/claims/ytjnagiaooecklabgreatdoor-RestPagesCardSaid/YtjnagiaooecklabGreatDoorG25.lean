/-
  Walks of functions of the program over an abstract layer, and the laws that they use: each contract says what the function computes, for every input that its conditions let by. No other condition.
-/
import Derived.Test.YtjnagiaooecklabGreatDoorG11
import Derived.Test.YtjnagiaooecklabGreatDoorG22
import Derived.Test.YtjnagiaooecklabGreatDoorG15
import Derived.Test.YtjnagiaooecklabGreatDoorG24
import Derived.Test.YtjnagiaooecklabGreatDoorG12
import Derived.Test.YtjnagiaooecklabGreatDoorG20
import Derived.Test.YtjnagiaooecklabGreatDoorG14
set_option linter.all false
section
set_option maxRecDepth 100000
set_option maxHeartbeats 4000000
namespace Go.Hx
open Go.Proofs
variable [Glob] [GlobL]
attribute [local go_sem] zAh zAj zAg zAd ndV zAm zAn zCq zAD yMt ndF
attribute [local go_sem] reduceCtorEq Nat.reduceAdd Nat.reduceEqDiff reduceIte Nat.reduceLeDiff Nat.reduceLT Nat.reduceSub
def yOB (d:List Nd):PVal:=if zAl d=0 then zEw d (zBF d) else zEw [] []
theorem yMu {d:List Nd} (h:zAl d=0):yOB d=.agg [.sl 5 (zDW d),.sl 3 (zEf (zBF d))]:=by unfold yOB;rw [if_pos h];rfl
theorem yRT {d:List Nd} (h:zAl d≠0):yOB d=.agg [.sl 5 [],.sl 3 []]:=by unfold yOB;rw [if_neg h];rfl
def yRU (d:List Nd):PVal:=if zAl d=0 then .agg [fr (.sl 5 (yI4 d)),fr (.sl 3 (zFi (zBF d)))] else .agg [.sl 5 [],.sl 3 []]
theorem yFt {d:List Nd} (h:zAl d=0):yRU d=.agg [fr (.sl 5 (yI4 d)),fr (.sl 3 (zFi (zBF d)))]:=if_pos h
theorem yMv {d:List Nd} (h:zAl d≠0):yRU d=.agg [.sl 5 [],.sl 3 []]:=if_neg h
theorem zW3 (d:List Nd):Contract Tryz.prog zE8 [.val (zB6 d)] {res:=.tup [yRU d,iv (zAl d)]}:=by
 have hB:=zNP d
 obtain ⟨R,hR⟩:∃ R,R=yRU d:=⟨_,rfl⟩
 rw [←hR]
 obtain ⟨e,he⟩:∃ e,e=zAl d:=⟨_,rfl⟩
 rw [←he] at hB ⊢
 unfold zB6 at hB ⊢
 refine mkA yIj (base:=0) (fo rfl) (fun hfit=>?_)
 unfold F0 zWR
 refine goU ?_
 refine zA8 (by repeat' constructor) (hB) ?_
 refine goW ?_
 refine zAa (by rfl) trivial (fun h0=>?_) (fun h0=>?_)
 ·have h1:e≠0:=by simpa using h0
  rw [yMv (he▸h1)] at hR
  refine goW ?_
  rw [hR]
  exact zAL (by simp) ⟨zAN rfl rfl (.inr rfl),zA5 rfl trivial (.inl rfl),rfl⟩
 have h1:e=0:=by simpa using h0
 rw [yFt (he.symm.trans h1)] at hR
 obtain ⟨d1,d2,d3⟩:=zA0 (he.symm.trans h1)
 subst h1
 have hBe:(if (0:Int)=0 then fr (.sl 3 (zFi (zBF d))) else .sl 3 [])=fr (.sl 3 (zFi (zBF d))):=if_pos rfl
 rw [hBe]
 refine goW ?_
 refine zAc (fun i:Nat=>[(23,.pv (iv i)),(47,.own zAC 5 (yI4 (d.take i))),(49,.un),(50,.un),(51,.un),(52,.un),(53,.un),(8,.un),(24,.un)]) (fun i:Nat=>d.length-i) (fun i:Nat=>i≤d.length) (0) ?_ (Nat.zero_le _) ?_
 focus (exact leA)
 intro i hi
 refine goW ?_
 refine zAa (by rfl) trivial (fun g1=>?_) (fun g1=>?_)
 ·have hil:i < d.length:=by simpa using g1
  obtain ⟨hs1,hs2⟩:=(zCN d3 d2 (zTs hil)).1
  have hx:=zBv d i hil
  have hstep:yI4 (d.take (i+1))=yI4 (d.take i)++[ndF (d.getD i default)]:=by
   unfold yI4
   rw [List.take_succ_eq_append_getElem hil,List.map_append]
   congr 1
   simp [hil]
  have hl:(yI4 (d.take i)).length≤64:=by rw [yMt,List.length_take];omega
  obtain ⟨x,hxe⟩:∃ x,x=d.getD i default:=⟨_,rfl⟩
  rw [←hxe] at hx hs1 hs2 hstep
  obtain ⟨L,hL⟩:∃ L,L=yI4 (d.take i):=⟨_,rfl⟩
  rw [←hL] at hstep hl ⊢
  unfold ndV at hx
  try simp (maxSteps:=2000000) only [go_sem,hx]
  repeat with_reducible refine zAt ?_
  refine zAe (by repeat' constructor) ((zCc _ hs1).fresh) ?_
  refine goW ?_
  refine zAe (by repeat' constructor) ((zCE _ hs2).fresh) ?_
  refine goW ?_
  refine ⟨i+1,by omega,hil,?_⟩
  rw [hstep]
  exact leA
 ·have hil:i=d.length:=by simp at g1;omega
  rw [hil,List.take_length]
  refine goW ?_
  rw [hR]
  exact zAL (by simp) ⟨zAN rfl rfl (.inl rfl),zA5 rfl trivial (.inl rfl),rfl⟩
theorem yK8 (d:List Nd):Contract Tryz.prog zE8 [.val (zB6 d)] {res:=.tup [yOB d,iv (zAl d)]}:=by
 refine (zW3 d).dnt ⟨?_,DnV.refl _,trivial⟩
 by_cases h:zAl d=0
 ·rw [yFt h,yMu h];exact ⟨Dn.fsl (ySZ _),Dn.fsl (yKq _),trivial⟩
 ·rw [yMv h,yRT h];exact DnV.refl _
end Go.Hx
end

section
set_option maxRecDepth 100000
set_option maxHeartbeats 4000000
namespace Go.Hx
open Go.Proofs
variable [Glob] [GlobL]
attribute [local go_sem] zAh zAj zAg zAd ndV zAm zAn zCq zAD
theorem zW8 (d:List Nd) (ix:List Ent):Contract Tryz.prog zFh [.val (zEw d ix)] {res:=.val (iv (zD0 d ix))}:=by
 have hC:=zGU d
 have hI:=fun h h2=>zFD d h h2
 have hS:=zES ix (zBF d)
 unfold zD0 zEw
 obtain ⟨e,he⟩:∃ e,e=zAl d:=⟨_,rfl⟩
 rw [←he] at hC ⊢
 unfold zB6 at hC hI
 refine mkA zRQ (base:=0) (fo rfl) (fun hfit=>?_)
 unfold F0 zKC
 refine goU ?_
 refine zAe (by repeat' constructor) (hC) ?_
 refine goW ?_
 refine zAa (by rfl) trivial (fun h0=>?_) (fun h0=>?_)
 ·have h1:e≠0:=by simpa using h0
  rw [if_pos h1]
  refine goW ?_
  exact zAb rfl trivial (.inl rfl)
 have h1:e=0:=by simpa using h0
 obtain ⟨d1,d2,d3⟩:=zA0 (he.symm.trans h1)
 have hI:=hI d2 fun i hi=>Nat.le_trans (zBD (zCY d3 hi)).1 (by decide)
 rw [if_neg (by rw [h1];decide)]
 refine goW ?_
 refine zAe (by repeat' constructor) (hI) ?_
 refine goW ?_
 refine zAe (by repeat' constructor) (hS) ?_
 refine goW ?_
 refine zAa (by rfl) trivial (fun h2=>?_) (fun h2=>?_)
 ·have h3:(zBF d==ix)=false:=by
   have:(ix==zBF d)=false:=by simpa using h2
   rw [beq_eq_false_iff_ne] at this ⊢
   exact fun h=>this h.symm
  rw [h3]
  refine goW ?_
  exact zAb rfl trivial (.inl rfl)
 ·have h3:(zBF d==ix)=true:=by
   have:(ix==zBF d)=true:=by simpa using h2
   rw [beq_iff_eq] at this ⊢
   exact this.symm
  rw [h3]
  refine goW ?_
  exact zAb rfl trivial (.inl rfl)
theorem yWU:zAl smallD=0:=by kernel_rfl
theorem yUR:yOB smallD=.agg [.sl 5 (zDW smallD),.sl 3 (zEf (zBF smallD))]:=yMu yWU
theorem yOC:Contract Tryz.prog zMB [] {res:=.val (zEw smallD (zBF smallD))}:=by
 have hO:=yK8 smallD
 rw [yWU,yUR] at hO
 unfold zEw
 refine mkA yK1 (base:=0) (fo rfl) (fun hfit=>?_)
 unfold F0 yBR
 refine goU ?_
 refine zAe (by repeat' constructor) (yLh) ?_
 refine goW ?_
 refine zA8 (by repeat' constructor) (hO) ?_
 refine goW ?_
 exact zCH rfl rfl rfl
end Go.Hx
end

section
set_option maxRecDepth 100000
set_option maxHeartbeats 4000000
namespace Go.Hx
open Go.Proofs
variable [Glob] [GlobL]
attribute [local go_sem] zAh zAj zAg zAd ndV zAm zAn zCq zAD
theorem zXf {d d':List Nd} (h:∀ i,zAZ d i=zAZ d' i):∀ (f:Nat) (k:Int),zBN d f k=zBN d' f k
 |0,k=>rfl
 |f+1,k=>by
  simp only [zBN]
  rw [h,zXf h f]
theorem yWX {d:List Nd} {n:Nat} {x:Nd} (hd:zAl d=0) (hn:n < d.length) (hx:zBo x=true):zAl (zR7 d n x)=0:=by
 obtain ⟨d1,d2,d3⟩:=zA0 hd
 have hlen:(zR7 d n x).length=d.length:=by unfold zR7;rw [List.length_set]
 have hget:∀ i,(zR7 d n x).getD i default=if n=i∧i < d.length then {x with up:=zAZ d n} else d.getD i default:=fun i=>by
  unfold zR7
  simp only [List.getD_eq_getElem?_getD,List.getElem?_set]
  by_cases h:n=i
  ·subst h;simp [hn]
  ·simp [h]
 have hup:∀ i,zAZ (zR7 d n x) i=zAZ d i:=fun i=>by
  show ((zR7 d n x).getD i default).up=_
  rw [hget]
  split
  ·rename_i h;rw [h.1]
  ·rfl
 unfold zAl
 rw [hlen,if_pos ⟨d1,d2⟩,if_pos]
 unfold zDI at d3 ⊢
 rw [List.all_eq_true] at d3 ⊢
 intro i hi
 have h3:=d3 i hi
 unfold yCI yNt at h3 ⊢
 rw [Bool.and_eq_true] at h3 ⊢
 refine ⟨?_,?_⟩
 ·rw [hget]
  split
  ·exact hx
  ·exact h3.1
 ·rw [hup,hup,zXf hup];exact h3.2
theorem yQf {P:Go.Program} {F:List Ct} {K:List Ct→Prop} {X:Value→List Ct→Prop} {f:FuncId} {x0:Opd} {caps:List PV} {args:List (Opd×AM)} {d:Option Nat} {x:PVal} {xs:List PVal} {io:List PV} (e:(zAn F x0).pv?=some (.one (.clo f caps))) (n:(zAn F x0).need) (h1:(zBR F args).1)
  (h2:Contract P f ((zBR F args).2++caps.map fun c=>.val (.one c)) {res:=.tup (x::xs),io:=io}) (h3:K (yCo (zAX F (some io) args) d (.tup (x::xs)))):hoW P ⟨none,.callv d x0 args⟩ F K X:=by
 show opW P (.callv d x0 args) F _ X
 simp only [opW,e]
 exact ⟨n,h1,_,h2,h3⟩
def pgE (w c:Int):Int:=if w≠0 then w else c
def pgD (w c:Int) (r:List Nd):List Nd:=if pgE w c=0 then r else []
def pgX (w c:Int) (r:List Nd):List Ent:=if pgE w c=0 then zBF r else []
def pgR (w c:Int) (r:List Nd):PVal:=zEw (pgD w c r) (pgX w c r)
theorem yYT {c:Int} {r:List Nd} (h:c≠0):pgR 0 c r=.agg [.sl 5 [],.sl 3 []]:=by
 have:¬ pgE 0 c=0:=by unfold pgE;rw [if_neg (by decide)];exact h
 unfold pgR pgD pgX;rw [if_neg this,if_neg this];rfl
theorem yR2 {r:List Nd}:pgR 0 0 r=.agg [.sl 5 (zDW r),.sl 3 (zEf (zBF r))]:=by
 have:pgE 0 0=0:=rfl
 unfold pgR pgD pgX;rw [if_pos this,if_pos this];rfl
def pgF (w c:Int) (r:List Nd):PVal:=if pgE w c=0 then .agg [fr (.sl 5 (yI4 r)),fr (.sl 3 (zFi (zBF r)))] else .agg [.sl 5 [],.sl 3 []]
theorem yYU {w c:Int} {r:List Nd} (h:w≠0):pgF w c r=.agg [.sl 5 [],.sl 3 []]:=by
 have:¬ pgE w c=0:=by unfold pgE;rw [if_pos h];exact h
 unfold pgF;rw [if_neg this]
theorem yYV {c:Int} {r:List Nd} (h:c≠0):pgF 0 c r=.agg [.sl 5 [],.sl 3 []]:=by
 have:¬ pgE 0 c=0:=by unfold pgE;rw [if_neg (by decide)];exact h
 unfold pgF;rw [if_neg this]
theorem yYW {r:List Nd}:pgF 0 0 r=.agg [fr (.sl 5 (yI4 r)),fr (.sl 3 (zFi (zBF r)))]:=if_pos rfl
theorem yYX (w c:Int) (r:List Nd):DnV (pgF w c r) (pgR w c r):=by
 unfold pgF pgR pgD pgX
 by_cases h:pgE w c=0
 ·rw [if_pos h,if_pos h,if_pos h];exact ⟨Dn.fsl (ySZ _),Dn.fsl (yKq _),trivial⟩
 ·rw [if_neg h,if_neg h,if_neg h];exact DnV.refl _
theorem zLN (d:List Nd) (ix:List Ent) (f:Nat) (caps:List PV) (r:List Nd) (c:Int) (hr:c=0→zAl r=0)
  (hc:Contract Tryz.prog f ([.val (zB6 d)]++caps.map fun c=>.val (.one c)) {res:=.tup [zB6 r,iv c]}):
  Contract Tryz.prog zCr [.val (zEw d ix),.val (.one (.clo f caps))] {res:=.tup [pgF (zD0 d ix) c r,iv (pgE (zD0 d ix) c)]}:=by
 have hF:=yH4 d ix
 have hO:=zW3 r
 obtain ⟨w,hw⟩:∃ w,w=zD0 d ix:=⟨_,rfl⟩
 rw [←hw] at hF ⊢
 obtain ⟨R,hR⟩:∃ R,R=pgF w c r:=⟨_,rfl⟩
 obtain ⟨E,hE⟩:∃ E,E=pgE w c:=⟨_,rfl⟩
 rw [←hR,←hE]
 unfold zEw at hF ⊢
 unfold zB6 at hc hO
 refine mkA zW0 (base:=0) (fo rfl) (fun hfit=>?_)
 unfold F0 zLJ
 refine goU ?_
 refine zAe (by repeat' constructor) (hF) ?_
 refine goW ?_
 refine zAa (by rfl) trivial (fun h0=>?_) (fun h0=>?_)
 ·have h1:w≠0:=by simpa using h0
  rw [yYU h1] at hR
  have h2:E=w:=by rw [hE];unfold pgE;rw [if_pos h1]
  refine goW ?_
  rw [hR,h2]
  exact zAL (by simp) ⟨zAN rfl rfl (.inr rfl),zA5 rfl trivial (.inl rfl),rfl⟩
 have h1:w=0:=by simpa using h0
 subst h1
 have h2:E=c:=by rw [hE];rfl
 refine goW ?_
 refine yQf (by rfl) trivial (by repeat' constructor) hc ?_
 refine goW ?_
 refine zAa (by rfl) trivial (fun h3=>?_) (fun h3=>?_)
 ·have h4:c≠0:=by simpa using h3
  rw [yYV h4] at hR
  refine goW ?_
  rw [hR,h2]
  exact zAL (by simp) ⟨zAN rfl rfl (.inr rfl),zA5 rfl trivial (.inl rfl),rfl⟩
 have h4:c=0:=by simpa using h3
 subst h4
 have h5:=hr rfl
 rw [h5,yFt h5] at hO
 rw [yYW] at hR
 refine goW ?_
 refine zA8 (by repeat' constructor) (hO) ?_
 refine goW ?_
 rw [hR,h2]
 exact zAL (by simp) ⟨zAN rfl rfl (.inl rfl),zA5 rfl trivial (.inl rfl),rfl⟩
theorem zGZ (d:List Nd) (ix:List Ent) (f:Nat) (caps:List PV) (r:List Nd) (c:Int) (hr:c=0→zAl r=0)
  (hc:Contract Tryz.prog f ([.val (zB6 d)]++caps.map fun c=>.val (.one c)) {res:=.tup [zB6 r,iv c]}):
  Contract Tryz.prog zCr [.val (zEw d ix),.val (.one (.clo f caps))] {res:=.tup [pgR (zD0 d ix) c r,iv (pgE (zD0 d ix) c)]}:=
 (zLN d ix f caps r c hr hc).dnt ⟨yYX _ _ _,DnV.refl _,trivial⟩
def yI5 (d:List Nd) (up at':Int) (e:List Nd):List Nd:=if zEz d up at' e=0 then zBO d up at' e else []
def yUX (d:List Nd) (n:Int):List Nd:=if yI2 d n=0 then zCO d n.toNat else []
def yUY (d:List Nd) (n:Int) (x:Nd):List Nd:=if yI3 d n x=0 then zR7 d n.toNat x else []
theorem yLm {d:List Nd} {up at':Int} {e:List Nd} (h:zEz d up at' e=0):zAl (yI5 d up at' e)=0:=by
 obtain ⟨n,_,h2,_⟩:=yR1 h
 unfold yI5;rw [if_pos h];exact h2
theorem yUZ {d:List Nd} {n:Int} (h:yI2 d n=0):zAl (yUX d n)=0:=by
 unfold yUX
 rw [if_pos h]
 unfold yI2 at h
 split at h
 ·rename_i h1
  obtain ⟨h3,h4,h5⟩:=zNN h1
  split at h
  ·cases h
  ·exact yWW h3 (by omega) (by omega)
 ·rename_i h1;exact absurd h h1
theorem yU0 {d:List Nd} {n:Int} {x:Nd} (h:yI3 d n x=0):zAl (yUY d n x)=0:=by
 unfold yUY
 rw [if_pos h]
 unfold yI3 at h
 split at h
 ·rename_i h1
  obtain ⟨h3,h4,h5⟩:=zNN h1
  split at h
  ·rename_i hx;exact yWX h3 (by omega) hx
  ·cases h
 ·rename_i h1;exact absurd h h1
theorem zKN (d:List Nd) (up at':Int) (e:List Nd):Contract Tryz.prog zCM [.val (zB6 d),.val (.one (.fp [bI up])),.val (.one (.fp [bI at'])),.val (.one (.fp [.sl 5 (zDW e)]))] {res:=.tup [zB6 (yI5 d up at' e),iv (zEz d up at' e)]}:=by
 have h:=yIo d up at' e
 rw [show (if zEz d up at' e=0 then zBO d up at' e else [])=yI5 d up at' e from rfl] at h
 unfold zB6 at h ⊢
 refine mkA zRX (base:=0) (fo rfl) (fun hfit=>?_)
 unfold F0 zKG
 refine goU ?_
 refine zA8 (by repeat' constructor) (h) ?_
 refine goW ?_
 exact zAL (by simp) ⟨zAN rfl rfl (.inl rfl),zA5 rfl trivial (.inl rfl),rfl⟩
theorem zXg (d:List Nd) (n:Int):Contract Tryz.prog zDT [.val (zB6 d),.val (.one (.fp [bI n]))] {res:=.tup [zB6 (yUX d n),iv (yI2 d n)]}:=by
 have h:=yIl d n
 rw [show (if yI2 d n=0 then zCO d n.toNat else [])=yUX d n from rfl] at h
 unfold zB6 at h ⊢
 refine mkA zR0 (base:=0) (fo rfl) (fun hfit=>?_)
 unfold F0 zKH
 refine goU ?_
 refine zA8 (by repeat' constructor) (h) ?_
 refine goW ?_
 exact zAL (by simp) ⟨zAN rfl rfl (.inl rfl),zA5 rfl trivial (.inl rfl),rfl⟩
theorem yIy (d:List Nd) (n:Int) (x:Nd):Contract Tryz.prog zFB [.val (zB6 d),.val (.one (.fp [bI n])),.val (.one (.fp (ndV x)))] {res:=.tup [zB6 (yUY d n x),iv (yI3 d n x)]}:=by
 have h:=yOA d n x
 rw [show (if yI3 d n x=0 then zR7 d n.toNat x else [])=yUY d n x from rfl] at h
 unfold zB6 ndV at h ⊢
 refine mkA yFo (base:=0) (fo rfl) (fun hfit=>?_)
 unfold F0 zQJ
 refine goU ?_
 refine zA8 (by repeat' constructor) (h) ?_
 refine goW ?_
 exact zAL (by simp) ⟨zAN rfl rfl (.inl rfl),zA5 rfl trivial (.inl rfl),rfl⟩
theorem yFC (d:List Nd) (ix:List Ent) (up at':Int) (e:List Nd):Contract Tryz.prog zCZ [.val (zEw d ix),.val (iv up),.val (iv at'),.val (zB6 e)] {res:=.tup [pgF (zD0 d ix) (zEz d up at' e) (yI5 d up at' e),iv (pgE (zD0 d ix) (zEz d up at' e))]}:=by
 have h:=zLN d ix zCM [.fp [bI up],.fp [bI at'],.fp [.sl 5 (zDW e)]] _ _ yLm (zKN d up at' e)
 unfold pgF at h ⊢
 unfold zEw at h ⊢
 unfold zB6
 by_cases h0:pgE (zD0 d ix) (zEz d up at' e)=0
 ·rw [if_pos h0] at h ⊢
  refine mkA zGX (base:=0) (fo rfl) (fun hfit=>?_)
  unfold F0 zFC
  refine goU ?_
  refine zA8 (by repeat' constructor) (h) ?_
  refine goW ?_
  exact zAL (by simp) ⟨zAN rfl rfl (.inl rfl),zA5 rfl trivial (.inl rfl),rfl⟩
 ·rw [if_neg h0] at h ⊢
  refine mkA zGX (base:=0) (fo rfl) (fun hfit=>?_)
  unfold F0 zFC
  refine goU ?_
  refine zA8 (by repeat' constructor) (h) ?_
  refine goW ?_
  exact zAL (by simp) ⟨zAN rfl rfl (.inl rfl),zA5 rfl trivial (.inl rfl),rfl⟩
theorem zN2 (d:List Nd) (ix:List Ent) (up at':Int) (e:List Nd):Contract Tryz.prog zCZ [.val (zEw d ix),.val (iv up),.val (iv at'),.val (zB6 e)] {res:=.tup [pgR (zD0 d ix) (zEz d up at' e) (yI5 d up at' e),iv (pgE (zD0 d ix) (zEz d up at' e))]}:=by
 have h:=zGZ d ix zCM [.fp [bI up],.fp [bI at'],.fp [.sl 5 (zDW e)]] _ _ yLm (zKN d up at' e)
 unfold pgR at h ⊢
 unfold zEw at h ⊢
 unfold zB6
 refine mkA zGX (base:=0) (fo rfl) (fun hfit=>?_)
 unfold F0 zFC
 refine goU ?_
 refine zA8 (by repeat' constructor) (h) ?_
 refine goW ?_
 exact zAL (by simp) ⟨zAN rfl rfl (.inl rfl),zA5 rfl trivial (.inl rfl),rfl⟩
theorem yFD (d:List Nd) (ix:List Ent) (n:Int):Contract Tryz.prog zGW [.val (zEw d ix),.val (iv n)] {res:=.tup [pgR (zD0 d ix) (yI2 d n) (yUX d n),iv (pgE (zD0 d ix) (yI2 d n))]}:=by
 have h:=zGZ d ix zDT [.fp [bI n]] _ _ yUZ (zXg d n)
 unfold pgR at h ⊢
 unfold zEw at h ⊢
 refine mkA yAg (base:=0) (fo rfl) (fun hfit=>?_)
 unfold F0 zNW
 refine goU ?_
 refine zA8 (by repeat' constructor) (h) ?_
 refine goW ?_
 exact zAL (by simp) ⟨zAN rfl rfl (.inl rfl),zA5 rfl trivial (.inl rfl),rfl⟩
theorem yOD (d:List Nd) (ix:List Ent) (n:Int) (x:Nd):Contract Tryz.prog zMC [.val (zEw d ix),.val (iv n),.val (.agg (ndV x))] {res:=.tup [pgR (zD0 d ix) (yI3 d n x) (yUY d n x),iv (pgE (zD0 d ix) (yI3 d n x))]}:=by
 have h:=zGZ d ix zFB [.fp [bI n],.fp (ndV x)] _ _ yU0 (yIy d n x)
 unfold pgR at h ⊢
 unfold zEw at h ⊢
 unfold ndV at h ⊢
 refine mkA yKX (base:=0) (fo rfl) (fun hfit=>?_)
 unfold F0 yBQ
 refine goU ?_
 refine zA8 (by repeat' constructor) (h) ?_
 refine goW ?_
 exact zAL (by simp) ⟨zAN rfl rfl (.inl rfl),zA5 rfl trivial (.inl rfl),rfl⟩
end Go.Hx
end

section
set_option maxRecDepth 100000
set_option maxHeartbeats 4000000
namespace Go.Hx
open Go.Proofs
variable [Glob] [GlobL]
attribute [local go_sem] zAh zAj zAg zAd ndV zAm zAn zCq zAD
attribute [local go_sem] reduceCtorEq Nat.reduceAdd Nat.reduceEqDiff reduceIte Nat.reduceLeDiff Nat.reduceLT Nat.reduceSub
theorem yII (r:List Nd) (c:Int) (hr:c=0→zAl r=0):Contract Tryz.prog zI9 [.val (zB6 r),.val (iv c)] {res:=.tup [pgR 0 c r,iv c]}:=by
 obtain ⟨R,hR⟩:∃ R,R=pgR 0 c r:=⟨_,rfl⟩
 rw [←hR]
 have hO:=fun h h2=>zQH r h h2
 have hI:=fun h h2=>zFD r h h2
 unfold zB6 at hO hI ⊢
 refine mkA yFg (base:=0) (fo rfl) (fun hfit=>?_)
 unfold F0 zQI
 refine goU ?_
 refine zAa (by rfl) trivial (fun h3=>?_) (fun h3=>?_)
 ·have h4:c≠0:=by simpa using h3
  rw [yYT h4] at hR
  refine goW ?_
  rw [hR]
  exact zAL (by simp) ⟨zAN rfl rfl (.inr rfl),zA5 rfl trivial (.inl rfl),rfl⟩
 have h4:c=0:=by simpa using h3
 subst h4
 obtain ⟨d1,d2,d3⟩:=zA0 (hr rfl)
 have hO:=hO d2 fun i hi=>by
  have:=zBD (zCY d3 hi)
  omega
 have hI:=hI d2 fun i hi=>Nat.le_trans (zBD (zCY d3 hi)).1 (by decide)
 rw [yR2] at hR
 refine goW ?_
 refine zAe (by repeat' constructor) (hO) ?_
 refine goW ?_
 refine zAe (by repeat' constructor) (hI) ?_
 refine goW ?_
 rw [hR]
 exact zAL (by simp) ⟨zAN rfl rfl (.inl rfl),zA5 rfl trivial (.inl rfl),rfl⟩
theorem zKP (d:List Nd) (ix:List Ent):Contract Tryz.prog zDU [.val (zEw d ix),.val (zEw d ix)] {res:=.val (bv true)}:=by
 have h1:=zZN d d
 rw [decide_eq_true rfl] at h1
 have h2:=zES ix ix
 rw [beq_self_eq_true] at h2
 unfold zB6 at h1
 unfold zEw
 refine mkA zRU (base:=0) (fo rfl) (fun hfit=>?_)
 unfold F0 zKF
 refine goU ?_
 refine zAe (by repeat' constructor) (h1) ?_
 refine goW ?_
 apply zAo (h2:=fun _=>h2)
 ·(simp (maxSteps:=2000000) only [go_sem];rfl)
 ·intro h;repeat' (first|exact trivial|exact h|refine And.intro ?_ ?_)
 refine goW ?_
 exact zAb rfl trivial (.inl rfl)
def xD:List Nd:=[{up:=-1,tag:=[120],id:=[],cls:=[],att:=[]}]
def yN:Nd:={up:=0,tag:=[121],id:=[],cls:=[],att:=[]}
def lb1:List Nd:=yUX smallD 2
def lb2:List Nd:=yI5 lb1 0 2 xD
def lb3:List Nd:=yUY lb2 3 yN
theorem yYY:yI2 smallD 2=0:=by kernel_rfl
theorem yYZ:zEz lb1 0 2 xD=0:=by kernel_rfl
theorem yY0:yI3 lb2 3 yN=0:=by kernel_rfl
theorem yY1:zD0 smallD (zBF smallD)=0:=by kernel_rfl
theorem yY2:zD0 lb1 (zBF lb1)=0:=by kernel_rfl
theorem yY3:zD0 lb2 (zBF lb2)=0:=by kernel_rfl
theorem yY4:(zBF lb1).length=4:=by kernel_rfl
theorem yY5:(zBF lb2).length=5:=by kernel_rfl
theorem yY6:lb3.length=4:=by kernel_rfl
theorem yY7:(lb3.getD 3 default).tag=[121]:=by kernel_rfl
theorem yY8:zAl lb3=0:=by kernel_rfl
theorem zF8:Contract Tryz.prog zDS [] {res:=.val (bv true)}:=by
 have h1:=yFD smallD (zBF smallD) 2
 rw [yY1,yYY,yR2] at h1
 rw [show yUX smallD 2=lb1 from rfl] at h1
 have h2:=zN2 lb1 (zBF lb1) 0 2 xD
 rw [yY2,yYZ,yR2] at h2
 rw [show yI5 lb1 0 2 xD=lb2 from rfl] at h2
 have h3:=yOD lb2 (zBF lb2) 3 yN
 rw [yY3,yY0,yR2] at h3
 rw [show yUY lb2 3 yN=lb3 from rfl] at h3
 obtain ⟨d1,d2,d3⟩:=zA0 yY8
 have hI:=zFD lb3 d2 fun i hi=>Nat.le_trans (zBD (zCY d3 hi)).1 (by decide)
 have hS:=zES (zBF lb3) (zBF lb3)
 rw [beq_self_eq_true] at hS
 have hP:=yOC
 have l1:=yY4
 have l2:=yY5
 have l3:=yY6
 have hg:=zBv lb3 3 (by rw [l3];decide)
 have ht:=yY7
 obtain ⟨y3,hy3⟩:∃ y,y=lb3.getD 3 default:=⟨_,rfl⟩
 rw [←hy3] at hg ht
 obtain ⟨X0,hX0⟩:∃ X,X=zBF smallD:=⟨_,rfl⟩
 obtain ⟨X1,hX1⟩:∃ X,X=zBF lb1:=⟨_,rfl⟩
 obtain ⟨X2,hX2⟩:∃ X,X=zBF lb2:=⟨_,rfl⟩
 obtain ⟨X3,hX3⟩:∃ X,X=zBF lb3:=⟨_,rfl⟩
 obtain ⟨D0,hD0⟩:∃ X,X=smallD:=⟨_,rfl⟩
 obtain ⟨D1,hD1⟩:∃ X,X=lb1:=⟨_,rfl⟩
 obtain ⟨D2,hD2⟩:∃ X,X=lb2:=⟨_,rfl⟩
 obtain ⟨D3,hD3⟩:∃ X,X=lb3:=⟨_,rfl⟩
 rw [←hX0] at h1 hP
 rw [←hX1] at h1 h2 l1
 rw [←hX2] at h2 h3 l2
 rw [←hX3] at h3 hI hS
 rw [←hD0] at h1 hP
 rw [←hD1] at h1 h2
 rw [←hD2] at h2 h3
 rw [←hD3] at h3 hI l3 hg
 have m1:((X1.length:Int)==4)=true:=by rw [l1];rfl
 have m2:((X2.length:Int)==5)=true:=by rw [l2];rfl
 have m3:((D3.length:Int)==4)=true:=by rw [l3];rfl
 have m4:(3:Int) < (D3.length:Int):=by rw [l3];decide
 have m5:(y3.tag==[121])=true:=by rw [ht];rfl
 have z3:Int.toNat 3=3:=rfl
 have hx:zB6 xD=.agg [.sl 5 [[bI (-1),bS [120],bS [],.sl 1 [],.sl 2 []]]]:=rfl
 have hy:ndV yN=[bI 0,bS [121],bS [],.sl 1 [],.sl 2 []]:=rfl
 rw [hx] at h2
 rw [hy] at h3
 unfold ndV at hg
 unfold zEw at h1 h2 h3 hP
 unfold zB6 at hI
 refine mkA zR6 (base:=0) (fo rfl) (fun hfit=>?_)
 unfold F0 zKI
 refine goU ?_
 refine zAe (by repeat' constructor) (hP) ?_
 refine goW ?_
 refine zA8 (by repeat' constructor) (h1) ?_
 refine goW ?_
 refine zA8 (by repeat' constructor) (h2) ?_
 refine goW ?_
 refine zA8 (by repeat' constructor) (h3) ?_
 try simp (maxSteps:=2000000) only [go_sem,m1,m2,m3,m5,z3,hg]
 repeat with_reducible refine zAt ?_
 apply zAo (h2:=fun _=>hI)
 ·(simp (maxSteps:=2000000) only [go_sem];rfl)
 ·intro h;repeat' (first|exact trivial|exact h|refine And.intro ?_ ?_)
 refine goW ?_
 apply zAo (h2:=fun _=>hS)
 ·(simp (maxSteps:=2000000) only [go_sem];rfl)
 ·intro h;repeat' (first|exact trivial|exact h|refine And.intro ?_ ?_)
 refine goW ?_
 exact zAb rfl trivial (.inl rfl)
end Go.Hx
end
