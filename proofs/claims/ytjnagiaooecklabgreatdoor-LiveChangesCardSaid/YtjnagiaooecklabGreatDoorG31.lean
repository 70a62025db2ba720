/-
  Walks of functions of the program over an abstract layer, and the laws that they use: each contract says what the function computes, for every input that its conditions let by. No other condition.
-/
import Derived.Test.YtjnagiaooecklabGreatDoorG28
import Derived.Test.YtjnagiaooecklabGreatDoorG14
import Derived.Test.YtjnagiaooecklabGreatDoorG30
import Derived.Test.YtjnagiaooecklabGreatDoorG13
import Derived.Test.YtjnagiaooecklabGreatDoorG27
set_option linter.all false
section
set_option maxRecDepth 100000
set_option linter.unusedSimpArgs false
set_option maxHeartbeats 4000000
namespace Go.Hx
open Go.Proofs
variable [Glob] [GlobL]
attribute [local go_sem] zAh zAm zAk zAg ndV zAr zAp zB6 zBb
attribute [local go_sem] reduceCtorEq Nat.reduceAdd Nat.reduceEqDiff reduceIte Nat.reduceLeDiff Nat.reduceLT Nat.reduceSub
def zXq (d:List Nd):PVal:=if zAi d=0 then zD6 d (zCo d) else zD6 [] []
theorem zMW {d:List Nd} (h:zAi d=0):zXq d=.agg [.sl 5 (zDd d),.sl 3 (zCK (zCo d))]:=by unfold zXq;rw [if_pos h];rfl
theorem yAg {d:List Nd} (h:zAi d≠0):zXq d=.agg [.sl 5 [],.sl 3 []]:=by unfold zXq;rw [if_neg h];rfl
theorem zI8 (d:List Nd):Contract Tryz.prog zDY [.val (zBE d)] {res:=.tup [zXq d,iv (zAi d)]}:=by
 have hB:=zJ6 d
 obtain ⟨R,hR⟩:∃ R,R=zXq d:=⟨_,rfl⟩
 rw [←hR]
 obtain ⟨e,he⟩:∃ e,e=zAi d:=⟨_,rfl⟩
 rw [←he] at hB ⊢
 unfold zBE at hB ⊢
 refine mkA zXl (base:=0) (fo rfl) (fun hfit=>?_)
 unfold F0 zPB
 simp (maxSteps:=2000000) only [zAM,List.set_cons_succ,List.set_cons_zero,List.map_cons,List.map_nil,zAL,zAa,ioOf,List.length_cons,List.length_nil,Nat.reduceAdd,Nat.reduceSub,List.replicate,List.cons_append,List.nil_append]
 try simp (maxSteps:=2000000) only [go_sem]
 repeat with_reducible refine zAb ?_
 refine zAW (by repeat' constructor) (hB) ?_
 try simp (maxSteps:=2000000) only [go_sem]
 repeat with_reducible refine zAb ?_
 refine zAd (by rfl) trivial (fun h0=>?_) (fun h0=>?_)
 ·have h1:e≠0:=by simpa using h0
  rw [yAg (he▸h1)] at hR
  try simp (maxSteps:=2000000) only [go_sem]
  repeat with_reducible refine zAb ?_
  rw [hR]
  exact zAR (by simp) ⟨zAH rfl rfl (.inr rfl),zA7 rfl trivial (.inl rfl),rfl⟩
 have h1:e=0:=by simpa using h0
 rw [zMW (he.symm.trans h1)] at hR
 obtain ⟨d1,d2,d3⟩:=zAO (he.symm.trans h1)
 subst h1
 have hBe:(if (0:Int)=0 then zCo d else [])=zCo d:=if_pos rfl
 rw [hBe]
 try simp (maxSteps:=2000000) only [go_sem]
 repeat with_reducible refine zAb ?_
 refine zAx (fun i:Nat=>[(23,.pv (iv i)),(47,.own zAz 5 (zDd (d.take i))),(49,.un),(50,.un),(51,.un),(52,.un),(53,.un),(8,.un),(24,.un)]) (fun i:Nat=>d.length-i) (fun i:Nat=>i≤d.length) (0) ?_ (Nat.zero_le _) ?_
 focus (simp (maxSteps:=2000000) only [go_sem,zAn,zAw,zAJ,zAo];all_goals (repeat' (first|exact trivial|exact zAy (by omega)|exact zAu rfl|exact zAN rfl|exact zAA|exact le_refl _|refine And.intro ?_ ?_)))
 intro i hi
 try simp (maxSteps:=2000000) only [go_sem]
 repeat with_reducible refine zAb ?_
 refine zAd (by rfl) trivial (fun g1=>?_) (fun g1=>?_)
 ·have hil:i < d.length:=by simpa using g1
  obtain ⟨hs1,hs2⟩:=(zBX d3 d2 (zKr hil)).1
  have hx:=zA4 d i hil
  have hstep:zDd (d.take (i+1))=zDd (d.take i)++[ndV (d.getD i default)]:=by
   unfold zDd
   rw [List.take_succ_eq_append_getElem hil,List.map_append]
   congr 1
   simp [hil]
  have hl:(zDd (d.take i)).length≤64:=by rw [zAh,List.length_take];omega
  obtain ⟨x,hxe⟩:∃ x,x=d.getD i default:=⟨_,rfl⟩
  rw [←hxe] at hx hs1 hs2 hstep
  obtain ⟨L,hL⟩:∃ L,L=zDd (d.take i):=⟨_,rfl⟩
  rw [←hL] at hstep hl ⊢
  unfold ndV at hx
  try simp (maxSteps:=2000000) only [go_sem,hx]
  repeat with_reducible refine zAb ?_
  refine zBa (by repeat' constructor) (zBO _ hs1) ?_
  try simp (maxSteps:=2000000) only [go_sem]
  repeat with_reducible refine zAb ?_
  refine zBa (by repeat' constructor) (zB3 _ hs2) ?_
  try simp (maxSteps:=2000000) only [go_sem]
  repeat with_reducible refine zAb ?_
  refine ⟨i+1,by omega,hil,?_⟩
  rw [hstep]
  simp (maxSteps:=2000000) only [go_sem,zAn,zAw,zAJ,zAo]
  all_goals (repeat' (first|exact trivial|exact zAy (by omega)|exact zAu rfl|exact zAN rfl|exact zAA|exact le_refl _|refine And.intro ?_ ?_))
 ·have hil:i=d.length:=by simp at g1;omega
  rw [hil,List.take_length]
  try simp (maxSteps:=2000000) only [go_sem]
  repeat with_reducible refine zAb ?_
  rw [hR]
  exact zAR (by simp) ⟨zAH rfl rfl (.inl rfl),zA7 rfl trivial (.inl rfl),rfl⟩
end Go.Hx
end

section
set_option maxRecDepth 100000
set_option linter.unusedSimpArgs false
set_option maxHeartbeats 4000000
namespace Go.Hx
open Go.Proofs
variable [Glob] [GlobL]
attribute [local go_sem] zAh zAm zAk zAg ndV zAr zAp zB6 zBb
attribute [local go_sem] reduceCtorEq Nat.reduceAdd Nat.reduceEqDiff reduceIte Nat.reduceLeDiff Nat.reduceLT Nat.reduceSub
theorem zPO (d:List Nd) (ix:List Ent):Contract Tryz.prog zD5 [.val (zD6 d ix)] {res:=.val (iv (zHr d ix))}:=by
 have hC:=zCR d
 have hI:=fun h h2=>zF8 d h h2
 have hS:=zDI ix (zCo d)
 unfold zHr zD6
 obtain ⟨e,he⟩:∃ e,e=zAi d:=⟨_,rfl⟩
 rw [←he] at hC ⊢
 unfold zBE at hC hI
 refine mkA zMy (base:=0) (fo rfl) (fun hfit=>?_)
 unfold F0 zHn
 simp (maxSteps:=2000000) only [zAM,List.set_cons_succ,List.set_cons_zero,List.map_cons,List.map_nil,zAL,zAa,ioOf,List.length_cons,List.length_nil,Nat.reduceAdd,Nat.reduceSub,List.replicate,List.cons_append,List.nil_append]
 try simp (maxSteps:=2000000) only [go_sem]
 repeat with_reducible refine zAb ?_
 refine zAq (by repeat' constructor) (hC) ?_
 try simp (maxSteps:=2000000) only [go_sem]
 repeat with_reducible refine zAb ?_
 refine zAd (by rfl) trivial (fun h0=>?_) (fun h0=>?_)
 ·have h1:e≠0:=by simpa using h0
  rw [if_pos h1]
  try simp (maxSteps:=2000000) only [go_sem]
  repeat with_reducible refine zAb ?_
  exact zAj rfl trivial (.inl rfl)
 have h1:e=0:=by simpa using h0
 obtain ⟨d1,d2,d3⟩:=zAO (he.symm.trans h1)
 have hI:=hI d2 fun i hi=>Nat.le_trans (zBu (zC9 d3 hi)).1 (by decide)
 rw [if_neg (by rw [h1];decide)]
 try simp (maxSteps:=2000000) only [go_sem]
 repeat with_reducible refine zAb ?_
 refine zAq (by repeat' constructor) (hI) ?_
 try simp (maxSteps:=2000000) only [go_sem]
 repeat with_reducible refine zAb ?_
 refine zAq (by repeat' constructor) (hS) ?_
 try simp (maxSteps:=2000000) only [go_sem]
 repeat with_reducible refine zAb ?_
 refine zAd (by rfl) trivial (fun h2=>?_) (fun h2=>?_)
 ·have h3:(zCo d==ix)=false:=by
   have:(ix==zCo d)=false:=by simpa using h2
   rw [beq_eq_false_iff_ne] at this ⊢
   exact fun h=>this h.symm
  rw [h3]
  try simp (maxSteps:=2000000) only [go_sem]
  repeat with_reducible refine zAb ?_
  exact zAj rfl trivial (.inl rfl)
 ·have h3:(zCo d==ix)=true:=by
   have:(ix==zCo d)=true:=by simpa using h2
   rw [beq_iff_eq] at this ⊢
   exact this.symm
  rw [h3]
  try simp (maxSteps:=2000000) only [go_sem]
  repeat with_reducible refine zAb ?_
  exact zAj rfl trivial (.inl rfl)
theorem yIo:zAi smallD=0:=by kernel_rfl
theorem yGr:zXq smallD=.agg [.sl 5 (zDd smallD),.sl 3 (zCK (zCo smallD))]:=zMW yIo
theorem yBJ:Contract Tryz.prog zI2 [] {res:=.val (zD6 smallD (zCo smallD))}:=by
 have hO:=zI8 smallD
 rw [yIo,yGr] at hO
 unfold zD6
 refine mkA zZi (base:=0) (fo rfl) (fun hfit=>?_)
 unfold F0 zSq
 simp (maxSteps:=2000000) only [zAM,List.set_cons_succ,List.set_cons_zero,List.map_cons,List.map_nil,zAL,zAa,ioOf,List.length_cons,List.length_nil,Nat.reduceAdd,Nat.reduceSub,List.replicate,List.cons_append,List.nil_append]
 try simp (maxSteps:=2000000) only [go_sem]
 repeat with_reducible refine zAb ?_
 refine zAq (by repeat' constructor) (zZo) ?_
 try simp (maxSteps:=2000000) only [go_sem]
 repeat with_reducible refine zAb ?_
 refine zAW (by repeat' constructor) (hO) ?_
 try simp (maxSteps:=2000000) only [go_sem]
 repeat with_reducible refine zAb ?_
 exact zCO rfl rfl rfl
end Go.Hx
end

section
set_option maxRecDepth 100000
set_option linter.unusedSimpArgs false
set_option maxHeartbeats 4000000
namespace Go.Hx
open Go.Proofs
variable [Glob] [GlobL]
attribute [local go_sem] zAh zAm zAk zAg ndV zAr zAp zB6 zBb
attribute [local go_sem] reduceCtorEq Nat.reduceAdd Nat.reduceEqDiff reduceIte Nat.reduceLeDiff Nat.reduceLT Nat.reduceSub
theorem zPV {d d':List Nd} (h:∀ i,zAS d i=zAS d' i):∀ (f:Nat) (k:Int),zBr d f k=zBr d' f k
 |0,k=>rfl
 |f+1,k=>by
  simp only [zBr]
  rw [h,zPV h f]
theorem yIr {d:List Nd} {n:Nat} {x:Nd} (hd:zAi d=0) (hn:n < d.length) (hx:zA0 x=true):zAi (zI7 d n x)=0:=by
 obtain ⟨d1,d2,d3⟩:=zAO hd
 have hlen:(zI7 d n x).length=d.length:=by unfold zI7;rw [List.length_set]
 have hget:∀ i,(zI7 d n x).getD i default=if n=i∧i < d.length then {x with up:=zAS d n} else d.getD i default:=fun i=>by
  unfold zI7
  simp only [List.getD_eq_getElem?_getD,List.getElem?_set]
  by_cases h:n=i
  ·subst h;simp [hn]
  ·simp [h]
 have hup:∀ i,zAS (zI7 d n x) i=zAS d i:=fun i=>by
  show ((zI7 d n x).getD i default).up=_
  rw [hget]
  split
  ·rename_i h;rw [h.1]
  ·rfl
 unfold zAi
 rw [hlen,if_pos ⟨d1,d2⟩,if_pos]
 unfold zCm at d3 ⊢
 rw [List.all_eq_true] at d3 ⊢
 intro i hi
 have h3:=d3 i hi
 unfold zS7 yAU at h3 ⊢
 rw [Bool.and_eq_true] at h3 ⊢
 refine ⟨?_,?_⟩
 ·rw [hget]
  split
  ·exact hx
  ·exact h3.1
 ·rw [hup,hup,zPV hup];exact h3.2
theorem yC1 {P:Go.Program} {F:List Ct} {K:List Ct→Prop} {X:Value→List Ct→Prop} {f:FuncId} {x0:Opd} {caps:List PV} {args:List (Opd×AM)} {d:Option Nat} {x:PVal} {xs:List PVal} {io:List PV} (e:(zAp F x0).pv?=some (.one (.clo f caps))) (n:(zAp F x0).need) (h1:(zBp F args).1)
  (h2:Contract P f ((zBp F args).2++caps.map fun c=>.val (.one c)) {res:=.tup (x::xs),io:=io}) (h3:K (zP0 (zAV F (some io) args) d (.tup (x::xs)))):hoW P ⟨none,.callv d x0 args⟩ F K X:=by
 show opW P (.callv d x0 args) F _ X
 simp only [opW,e]
 exact ⟨n,h1,_,h2,h3⟩
def pgE (w c:Int):Int:=if w≠0 then w else c
def pgD (w c:Int) (r:List Nd):List Nd:=if pgE w c=0 then r else []
def pgX (w c:Int) (r:List Nd):List Ent:=if pgE w c=0 then zCo r else []
def pgR (w c:Int) (r:List Nd):PVal:=zD6 (pgD w c r) (pgX w c r)
theorem yEq {w c:Int} {r:List Nd} (h:w≠0):pgR w c r=.agg [.sl 5 [],.sl 3 []]:=by
 have:¬ pgE w c=0:=by unfold pgE;rw [if_pos h];exact h
 unfold pgR pgD pgX;rw [if_neg this,if_neg this];rfl
theorem yGx {c:Int} {r:List Nd} (h:c≠0):pgR 0 c r=.agg [.sl 5 [],.sl 3 []]:=by
 have:¬ pgE 0 c=0:=by unfold pgE;rw [if_neg (by decide)];exact h
 unfold pgR pgD pgX;rw [if_neg this,if_neg this];rfl
theorem yBK {r:List Nd}:pgR 0 0 r=.agg [.sl 5 (zDd r),.sl 3 (zCK (zCo r))]:=by
 have:pgE 0 0=0:=rfl
 unfold pgR pgD pgX;rw [if_pos this,if_pos this];rfl
theorem yEr (d:List Nd):zXq d=pgR 0 (zAi d) d:=by
 by_cases h:zAi d=0
 ·rw [zMW h,h,yBK]
 ·rw [yAg h,yGx h]
theorem zFl (d:List Nd) (ix:List Ent) (f:Nat) (caps:List PV) (r:List Nd) (c:Int) (hr:c=0→zAi r=0)
  (hc:Contract Tryz.prog f ([.val (zBE d)]++caps.map fun c=>.val (.one c)) {res:=.tup [zBE r,iv c]}):
  Contract Tryz.prog zCu [.val (zD6 d ix),.val (.one (.clo f caps))] {res:=.tup [pgR (zHr d ix) c r,iv (pgE (zHr d ix) c)]}:=by
 have hF:=zW6 d ix
 have hO:=zI8 r
 obtain ⟨w,hw⟩:∃ w,w=zHr d ix:=⟨_,rfl⟩
 rw [←hw] at hF ⊢
 obtain ⟨R,hR⟩:∃ R,R=pgR w c r:=⟨_,rfl⟩
 obtain ⟨E,hE⟩:∃ E,E=pgE w c:=⟨_,rfl⟩
 rw [←hR,←hE]
 unfold zD6 at hF ⊢
 unfold zBE at hc hO
 refine mkA zPK (base:=0) (fo rfl) (fun hfit=>?_)
 unfold F0 zIi
 simp (maxSteps:=2000000) only [zAM,List.set_cons_succ,List.set_cons_zero,List.map_cons,List.map_nil,zAL,zAa,ioOf,List.length_cons,List.length_nil,Nat.reduceAdd,Nat.reduceSub,List.replicate,List.cons_append,List.nil_append]
 try simp (maxSteps:=2000000) only [go_sem]
 repeat with_reducible refine zAb ?_
 refine zAq (by repeat' constructor) (hF) ?_
 try simp (maxSteps:=2000000) only [go_sem]
 repeat with_reducible refine zAb ?_
 refine zAd (by rfl) trivial (fun h0=>?_) (fun h0=>?_)
 ·have h1:w≠0:=by simpa using h0
  rw [yEq h1] at hR
  have h2:E=w:=by rw [hE];unfold pgE;rw [if_pos h1]
  try simp (maxSteps:=2000000) only [go_sem]
  repeat with_reducible refine zAb ?_
  rw [hR,h2]
  exact zAR (by simp) ⟨zAH rfl rfl (.inr rfl),zA7 rfl trivial (.inl rfl),rfl⟩
 have h1:w=0:=by simpa using h0
 subst h1
 have h2:E=c:=by rw [hE];rfl
 try simp (maxSteps:=2000000) only [go_sem]
 repeat with_reducible refine zAb ?_
 refine yC1 (by rfl) trivial (by repeat' constructor) hc ?_
 try simp (maxSteps:=2000000) only [go_sem]
 repeat with_reducible refine zAb ?_
 refine zAd (by rfl) trivial (fun h3=>?_) (fun h3=>?_)
 ·have h4:c≠0:=by simpa using h3
  rw [yGx h4] at hR
  try simp (maxSteps:=2000000) only [go_sem]
  repeat with_reducible refine zAb ?_
  rw [hR,h2]
  exact zAR (by simp) ⟨zAH rfl rfl (.inr rfl),zA7 rfl trivial (.inl rfl),rfl⟩
 have h4:c=0:=by simpa using h3
 subst h4
 have h5:=hr rfl
 rw [h5,zMW h5] at hO
 rw [yBK] at hR
 try simp (maxSteps:=2000000) only [go_sem]
 repeat with_reducible refine zAb ?_
 refine zAW (by repeat' constructor) (hO) ?_
 try simp (maxSteps:=2000000) only [go_sem]
 repeat with_reducible refine zAb ?_
 rw [hR,h2]
 exact zAR (by simp) ⟨zAH rfl rfl (.inl rfl),zA7 rfl trivial (.inl rfl),rfl⟩
def yC2 (d:List Nd) (up at':Int) (e:List Nd):List Nd:=if zFm d up at' e=0 then zBs d up at' e else []
def yDg (d:List Nd) (n:Int):List Nd:=if zP2 d n=0 then zBA d n.toNat else []
def yDh (d:List Nd) (n:Int) (x:Nd):List Nd:=if zK2 d n x=0 then zI7 d n.toNat x else []
theorem yC3 {d:List Nd} {up at':Int} {e:List Nd} (h:zFm d up at' e=0):zAi (yC2 d up at' e)=0:=by
 obtain ⟨n,_,h2,_⟩:=yEp h
 unfold yC2;rw [if_pos h];exact h2
theorem yC4 {d:List Nd} {n:Int} (h:zP2 d n=0):zAi (yDg d n)=0:=by
 unfold yDg
 rw [if_pos h]
 unfold zP2 at h
 split at h
 ·rename_i h1
  obtain ⟨h3,h4,h5⟩:=zDX h1
  split at h
  ·cases h
  ·exact yIq h3 (by omega) (by omega)
 ·rename_i h1;exact absurd h h1
theorem yC5 {d:List Nd} {n:Int} {x:Nd} (h:zK2 d n x=0):zAi (yDh d n x)=0:=by
 unfold yDh
 rw [if_pos h]
 unfold zK2 at h
 split at h
 ·rename_i h1
  obtain ⟨h3,h4,h5⟩:=zDX h1
  split at h
  ·rename_i hx;exact yIr h3 (by omega) hx
  ·cases h
 ·rename_i h1;exact absurd h h1
theorem zPW (d:List Nd) (up at':Int) (e:List Nd):Contract Tryz.prog zCV [.val (zBE d),.val (.one (.fp [bI up])),.val (.one (.fp [bI at'])),.val (.one (.fp [.sl 5 (zDd e)]))] {res:=.tup [zBE (yC2 d up at' e),iv (zFm d up at' e)]}:=by
 have h:=zXp d up at' e
 rw [show (if zFm d up at' e=0 then zBs d up at' e else [])=yC2 d up at' e from rfl] at h
 unfold zBE at h ⊢
 refine mkA zMF (base:=0) (fo rfl) (fun hfit=>?_)
 unfold F0 zHt
 simp (maxSteps:=2000000) only [zAM,List.set_cons_succ,List.set_cons_zero,List.map_cons,List.map_nil,zAL,zAa,ioOf,List.length_cons,List.length_nil,Nat.reduceAdd,Nat.reduceSub,List.replicate,List.cons_append,List.nil_append]
 try simp (maxSteps:=2000000) only [go_sem]
 repeat with_reducible refine zAb ?_
 refine zAW (by repeat' constructor) (h) ?_
 try simp (maxSteps:=2000000) only [go_sem]
 repeat with_reducible refine zAb ?_
 exact zAR (by simp) ⟨zAH rfl rfl (.inl rfl),zA7 rfl trivial (.inl rfl),rfl⟩
theorem zPX (d:List Nd) (n:Int):Contract Tryz.prog zCW [.val (zBE d),.val (.one (.fp [bI n]))] {res:=.tup [zBE (yDg d n),iv (zP2 d n)]}:=by
 have h:=zXn d n
 rw [show (if zP2 d n=0 then zBA d n.toNat else [])=yDg d n from rfl] at h
 unfold zBE at h ⊢
 refine mkA zMI (base:=0) (fo rfl) (fun hfit=>?_)
 unfold F0 zHu
 simp (maxSteps:=2000000) only [zAM,List.set_cons_succ,List.set_cons_zero,List.map_cons,List.map_nil,zAL,zAa,ioOf,List.length_cons,List.length_nil,Nat.reduceAdd,Nat.reduceSub,List.replicate,List.cons_append,List.nil_append]
 try simp (maxSteps:=2000000) only [go_sem]
 repeat with_reducible refine zAb ?_
 refine zAW (by repeat' constructor) (h) ?_
 try simp (maxSteps:=2000000) only [go_sem]
 repeat with_reducible refine zAb ?_
 exact zAR (by simp) ⟨zAH rfl rfl (.inl rfl),zA7 rfl trivial (.inl rfl),rfl⟩
theorem zXx (d:List Nd) (n:Int) (x:Nd):Contract Tryz.prog zEk [.val (zBE d),.val (.one (.fp [bI n])),.val (.one (.fp (ndV x)))] {res:=.tup [zBE (yDh d n x),iv (zK2 d n x)]}:=by
 have h:=yBI d n x
 rw [show (if zK2 d n x=0 then zI7 d n.toNat x else [])=yDh d n x from rfl] at h
 unfold zBE ndV at h ⊢
 refine mkA zVo (base:=0) (fo rfl) (fun hfit=>?_)
 unfold F0 zLA
 simp (maxSteps:=2000000) only [zAM,List.set_cons_succ,List.set_cons_zero,List.map_cons,List.map_nil,zAL,zAa,ioOf,List.length_cons,List.length_nil,Nat.reduceAdd,Nat.reduceSub,List.replicate,List.cons_append,List.nil_append]
 try simp (maxSteps:=2000000) only [go_sem]
 repeat with_reducible refine zAb ?_
 refine zAW (by repeat' constructor) (h) ?_
 try simp (maxSteps:=2000000) only [go_sem]
 repeat with_reducible refine zAb ?_
 exact zAR (by simp) ⟨zAH rfl rfl (.inl rfl),zA7 rfl trivial (.inl rfl),rfl⟩
theorem zKu (d:List Nd) (ix:List Ent) (up at':Int) (e:List Nd):Contract Tryz.prog zDO [.val (zD6 d ix),.val (iv up),.val (iv at'),.val (zBE e)] {res:=.tup [pgR (zHr d ix) (zFm d up at' e) (yC2 d up at' e),iv (pgE (zHr d ix) (zFm d up at' e))]}:=by
 have h:=zFl d ix zCV [.fp [bI up],.fp [bI at'],.fp [.sl 5 (zDd e)]] _ _ yC3 (zPW d up at' e)
 unfold pgR at h ⊢
 unfold zD6 at h ⊢
 unfold zBE
 refine mkA zRM (base:=0) (fo rfl) (fun hfit=>?_)
 unfold F0 zKf
 simp (maxSteps:=2000000) only [zAM,List.set_cons_succ,List.set_cons_zero,List.map_cons,List.map_nil,zAL,zAa,ioOf,List.length_cons,List.length_nil,Nat.reduceAdd,Nat.reduceSub,List.replicate,List.cons_append,List.nil_append]
 try simp (maxSteps:=2000000) only [go_sem]
 repeat with_reducible refine zAb ?_
 refine zAW (by repeat' constructor) (h) ?_
 try simp (maxSteps:=2000000) only [go_sem]
 repeat with_reducible refine zAb ?_
 exact zAR (by simp) ⟨zAH rfl rfl (.inl rfl),zA7 rfl trivial (.inl rfl),rfl⟩
theorem zKv (d:List Nd) (ix:List Ent) (n:Int):Contract Tryz.prog zDP [.val (zD6 d ix),.val (iv n)] {res:=.tup [pgR (zHr d ix) (zP2 d n) (yDg d n),iv (pgE (zHr d ix) (zP2 d n))]}:=by
 have h:=zFl d ix zCW [.fp [bI n]] _ _ yC4 (zPX d n)
 unfold pgR at h ⊢
 unfold zD6 at h ⊢
 refine mkA zRP (base:=0) (fo rfl) (fun hfit=>?_)
 unfold F0 zKg
 simp (maxSteps:=2000000) only [zAM,List.set_cons_succ,List.set_cons_zero,List.map_cons,List.map_nil,zAL,zAa,ioOf,List.length_cons,List.length_nil,Nat.reduceAdd,Nat.reduceSub,List.replicate,List.cons_append,List.nil_append]
 try simp (maxSteps:=2000000) only [go_sem]
 repeat with_reducible refine zAb ?_
 refine zAW (by repeat' constructor) (h) ?_
 try simp (maxSteps:=2000000) only [go_sem]
 repeat with_reducible refine zAb ?_
 exact zAR (by simp) ⟨zAH rfl rfl (.inl rfl),zA7 rfl trivial (.inl rfl),rfl⟩
theorem zSx (d:List Nd) (ix:List Ent) (n:Int) (x:Nd):Contract Tryz.prog zF7 [.val (zD6 d ix),.val (iv n),.val (.agg (ndV x))] {res:=.tup [pgR (zHr d ix) (zK2 d n x) (yDh d n x),iv (pgE (zHr d ix) (zK2 d n x))]}:=by
 have h:=zFl d ix zEk [.fp [bI n],.fp (ndV x)] _ _ yC5 (zXx d n x)
 unfold pgR at h ⊢
 unfold zD6 at h ⊢
 unfold ndV at h ⊢
 refine mkA zZe (base:=0) (fo rfl) (fun hfit=>?_)
 unfold F0 zSp
 simp (maxSteps:=2000000) only [zAM,List.set_cons_succ,List.set_cons_zero,List.map_cons,List.map_nil,zAL,zAa,ioOf,List.length_cons,List.length_nil,Nat.reduceAdd,Nat.reduceSub,List.replicate,List.cons_append,List.nil_append]
 try simp (maxSteps:=2000000) only [go_sem]
 repeat with_reducible refine zAb ?_
 refine zAW (by repeat' constructor) (h) ?_
 try simp (maxSteps:=2000000) only [go_sem]
 repeat with_reducible refine zAb ?_
 exact zAR (by simp) ⟨zAH rfl rfl (.inl rfl),zA7 rfl trivial (.inl rfl),rfl⟩
end Go.Hx
end

section
set_option maxRecDepth 100000
set_option linter.unusedSimpArgs false
set_option maxHeartbeats 4000000
namespace Go.Hx
open Go.Proofs
variable [Glob] [GlobL]
attribute [local go_sem] zAh zAm zAk zAg ndV zAr zAp zB6 zBb
attribute [local go_sem] reduceCtorEq Nat.reduceAdd Nat.reduceEqDiff reduceIte Nat.reduceLeDiff Nat.reduceLT Nat.reduceSub
theorem zE3 (r:List Nd) (c:Int) (hr:c=0→zAi r=0):Contract Tryz.prog zCF [.val (zBE r),.val (iv c)] {res:=.tup [pgR 0 c r,iv c]}:=by
 obtain ⟨R,hR⟩:∃ R,R=pgR 0 c r:=⟨_,rfl⟩
 rw [←hR]
 have hO:=fun h h2=>zWW r h h2
 have hI:=fun h h2=>zF8 r h h2
 unfold zBE at hO hI ⊢
 refine mkA zVg (base:=0) (fo rfl) (fun hfit=>?_)
 unfold F0 zLz
 simp (maxSteps:=2000000) only [zAM,List.set_cons_succ,List.set_cons_zero,List.map_cons,List.map_nil,zAL,zAa,ioOf,List.length_cons,List.length_nil,Nat.reduceAdd,Nat.reduceSub,List.replicate,List.cons_append,List.nil_append]
 try simp (maxSteps:=2000000) only [go_sem]
 repeat with_reducible refine zAb ?_
 refine zAd (by rfl) trivial (fun h3=>?_) (fun h3=>?_)
 ·have h4:c≠0:=by simpa using h3
  rw [yGx h4] at hR
  try simp (maxSteps:=2000000) only [go_sem]
  repeat with_reducible refine zAb ?_
  rw [hR]
  exact zAR (by simp) ⟨zAH rfl rfl (.inr rfl),zA7 rfl trivial (.inl rfl),rfl⟩
 have h4:c=0:=by simpa using h3
 subst h4
 obtain ⟨d1,d2,d3⟩:=zAO (hr rfl)
 have hO:=hO d2 fun i hi=>by
  have:=zBu (zC9 d3 hi)
  omega
 have hI:=hI d2 fun i hi=>Nat.le_trans (zBu (zC9 d3 hi)).1 (by decide)
 rw [yBK] at hR
 try simp (maxSteps:=2000000) only [go_sem]
 repeat with_reducible refine zAb ?_
 refine zAq (by repeat' constructor) (hO) ?_
 try simp (maxSteps:=2000000) only [go_sem]
 repeat with_reducible refine zAb ?_
 refine zAq (by repeat' constructor) (hI) ?_
 try simp (maxSteps:=2000000) only [go_sem]
 repeat with_reducible refine zAb ?_
 rw [hR]
 exact zAR (by simp) ⟨zAH rfl rfl (.inl rfl),zA7 rfl trivial (.inl rfl),rfl⟩
theorem zCw (d:List Nd) (ix:List Ent):Contract Tryz.prog zBH [.val (zD6 d ix),.val (zD6 d ix)] {res:=.val (bv true)}:=by
 have h1:=zQ3 d d
 rw [decide_eq_true rfl] at h1
 have h2:=zDI ix ix
 rw [beq_self_eq_true] at h2
 unfold zBE at h1
 unfold zD6
 refine mkA zMC (base:=0) (fo rfl) (fun hfit=>?_)
 unfold F0 zHs
 simp (maxSteps:=2000000) only [zAM,List.set_cons_succ,List.set_cons_zero,List.map_cons,List.map_nil,zAL,zAa,ioOf,List.length_cons,List.length_nil,Nat.reduceAdd,Nat.reduceSub,List.replicate,List.cons_append,List.nil_append]
 try simp (maxSteps:=2000000) only [go_sem]
 repeat with_reducible refine zAb ?_
 refine zAq (by repeat' constructor) (h1) ?_
 try simp (maxSteps:=2000000) only [go_sem]
 repeat with_reducible refine zAb ?_
 apply zAB (h2:=fun _=>h2)
 ·(simp (maxSteps:=2000000) only [go_sem];rfl)
 ·intro h;repeat' (first|exact trivial|exact h|refine And.intro ?_ ?_)
 try simp (maxSteps:=2000000) only [go_sem]
 repeat with_reducible refine zAb ?_
 exact zAj rfl trivial (.inl rfl)
def xD:List Nd:=[{up:=-1,tag:=[120],id:=[],cls:=[],att:=[]}]
def yN:Nd:={up:=0,tag:=[121],id:=[],cls:=[],att:=[]}
def lb1:List Nd:=yDg smallD 2
def lb2:List Nd:=yC2 lb1 0 2 xD
def lb3:List Nd:=yDh lb2 3 yN
theorem yJS:zP2 smallD 2=0:=by kernel_rfl
theorem yJT:zFm lb1 0 2 xD=0:=by kernel_rfl
theorem yJU:zK2 lb2 3 yN=0:=by kernel_rfl
theorem yJV:zHr smallD (zCo smallD)=0:=by kernel_rfl
theorem yJW:zHr lb1 (zCo lb1)=0:=by kernel_rfl
theorem yJX:zHr lb2 (zCo lb2)=0:=by kernel_rfl
theorem yJY:(zCo lb1).length=4:=by kernel_rfl
theorem yJZ:(zCo lb2).length=5:=by kernel_rfl
theorem yJ0:lb3.length=4:=by kernel_rfl
theorem yJ1:(lb3.getD 3 default).tag=[121]:=by kernel_rfl
theorem yJ2:zAi lb3=0:=by kernel_rfl
theorem zHB:Contract Tryz.prog zD8 [] {res:=.val (bv true)}:=by
 have h1:=zKv smallD (zCo smallD) 2
 rw [yJV,yJS,yBK] at h1
 rw [show yDg smallD 2=lb1 from rfl] at h1
 have h2:=zKu lb1 (zCo lb1) 0 2 xD
 rw [yJW,yJT,yBK] at h2
 rw [show yC2 lb1 0 2 xD=lb2 from rfl] at h2
 have h3:=zSx lb2 (zCo lb2) 3 yN
 rw [yJX,yJU,yBK] at h3
 rw [show yDh lb2 3 yN=lb3 from rfl] at h3
 obtain ⟨d1,d2,d3⟩:=zAO yJ2
 have hI:=zF8 lb3 d2 fun i hi=>Nat.le_trans (zBu (zC9 d3 hi)).1 (by decide)
 have hS:=zDI (zCo lb3) (zCo lb3)
 rw [beq_self_eq_true] at hS
 have hP:=yBJ
 have l1:=yJY
 have l2:=yJZ
 have l3:=yJ0
 have hg:=zA4 lb3 3 (by rw [l3];decide)
 have ht:=yJ1
 obtain ⟨y3,hy3⟩:∃ y,y=lb3.getD 3 default:=⟨_,rfl⟩
 rw [←hy3] at hg ht
 obtain ⟨X0,hX0⟩:∃ X,X=zCo smallD:=⟨_,rfl⟩
 obtain ⟨X1,hX1⟩:∃ X,X=zCo lb1:=⟨_,rfl⟩
 obtain ⟨X2,hX2⟩:∃ X,X=zCo lb2:=⟨_,rfl⟩
 obtain ⟨X3,hX3⟩:∃ X,X=zCo lb3:=⟨_,rfl⟩
 obtain ⟨D0,hD0⟩:∃ X,X=smallD:=⟨_,rfl⟩
 obtain ⟨D1,hD1⟩:∃ X,X=lb1:=⟨_,rfl⟩
 obtain ⟨D2,hD2⟩:∃ X,X=lb2:=⟨_,rfl⟩
 obtain ⟨D3,hD3⟩:∃ X,X=lb3:=⟨_,rfl⟩
 rw [←hX0] at h1 hP
 rw [←hX1] at h1 h2 l1
 rw [←hX2] at h2 h3 l2
 rw [←hX3] at h3 hI hS
 rw [←hD0] at h1 hP
 rw [←hD1] at h1 h2
 rw [←hD2] at h2 h3
 rw [←hD3] at h3 hI l3 hg
 have m1:((X1.length:Int)==4)=true:=by rw [l1];rfl
 have m2:((X2.length:Int)==5)=true:=by rw [l2];rfl
 have m3:((D3.length:Int)==4)=true:=by rw [l3];rfl
 have m4:(3:Int) < (D3.length:Int):=by rw [l3];decide
 have m5:(y3.tag==[121])=true:=by rw [ht];rfl
 have z3:Int.toNat 3=3:=rfl
 have hx:zBE xD=.agg [.sl 5 [[bI (-1),bS [120],bS [],.sl 1 [],.sl 2 []]]]:=rfl
 have hy:ndV yN=[bI 0,bS [121],bS [],.sl 1 [],.sl 2 []]:=rfl
 rw [hx] at h2
 rw [hy] at h3
 unfold ndV at hg
 unfold zD6 at h1 h2 h3 hP
 unfold zBE at hI
 refine mkA zMO (base:=0) (fo rfl) (fun hfit=>?_)
 unfold F0 zHv
 simp (maxSteps:=2000000) only [zAM,List.set_cons_succ,List.set_cons_zero,List.map_cons,List.map_nil,zAL,zAa,ioOf,List.length_cons,List.length_nil,Nat.reduceAdd,Nat.reduceSub,List.replicate,List.cons_append,List.nil_append]
 try simp (maxSteps:=2000000) only [go_sem]
 repeat with_reducible refine zAb ?_
 refine zAq (by repeat' constructor) (hP) ?_
 try simp (maxSteps:=2000000) only [go_sem]
 repeat with_reducible refine zAb ?_
 refine zAW (by repeat' constructor) (h1) ?_
 try simp (maxSteps:=2000000) only [go_sem]
 repeat with_reducible refine zAb ?_
 refine zAW (by repeat' constructor) (h2) ?_
 try simp (maxSteps:=2000000) only [go_sem]
 repeat with_reducible refine zAb ?_
 refine zAW (by repeat' constructor) (h3) ?_
 try simp (maxSteps:=2000000) only [go_sem,m1,m2,m3,m5,z3,hg]
 repeat with_reducible refine zAb ?_
 apply zAB (h2:=fun _=>hI)
 ·(simp (maxSteps:=2000000) only [go_sem];rfl)
 ·intro h;repeat' (first|exact trivial|exact h|refine And.intro ?_ ?_)
 try simp (maxSteps:=2000000) only [go_sem]
 repeat with_reducible refine zAb ?_
 apply zAB (h2:=fun _=>hS)
 ·(simp (maxSteps:=2000000) only [go_sem];rfl)
 ·intro h;repeat' (first|exact trivial|exact h|refine And.intro ?_ ?_)
 try simp (maxSteps:=2000000) only [go_sem]
 repeat with_reducible refine zAb ?_
 exact zAj rfl trivial (.inl rfl)
end Go.Hx
end

section
set_option maxRecDepth 100000
set_option linter.unusedSimpArgs false
set_option maxHeartbeats 4000000
namespace Go.Hx
open Go.Proofs
variable [Glob] [GlobL]
attribute [local go_sem] zAh zAm zAk zAg ndV zAr zAp zB6 zBb
attribute [local go_sem] reduceCtorEq Nat.reduceAdd Nat.reduceEqDiff reduceIte Nat.reduceLeDiff Nat.reduceLT Nat.reduceSub
theorem pgV (w c:Int) (r:List Nd):pgR w c r=.agg [.sl 5 (zDd (pgD w c r)),.sl 3 (zCK (pgX w c r))]:=rfl
theorem zK4 (d:List Nd) (ix:List Ent) (up at':Int) (e:List Nd) (n:Int) (x:Nd):Contract Tryz.prog zE0 [.val (zD6 d ix),.val (iv up),.val (iv at'),.val (zBE e),.val (iv n),.val (.agg (ndV x))] {res:=.val (bv true)}:=by
 have hO:=zI8 d
 rw [yEr] at hO
 have h1:=zKu d ix up at' e
 have h2:=zKv d ix n
 have h3:=zSx d ix n x
 have hC:=zCR d
 have hPO:=zE3 d (zAi d) id
 have hPE:=zPO d ix
 have hI:=zMP d up at' e
 have hie:(if zFm d up at' e=0 then yIH d up at' e else [])=yC2 d up at' e:=by
  unfold yC2
  split
  ·rename_i h;exact (zXA h).symm
  ·rfl
 rw [hie] at hI
 have hR:=zPd d n (yBL d n)
 rw [zXy] at hR
 have hR:Contract Tryz.prog zCT [.val (zBE d),.val (iv n)] {res:=.tup [zBE (yDg d n),iv (zP2 d n)]}:=hR
 have hP:Contract Tryz.prog zEj [.val (zBE d),.val (iv n),.val (.agg (ndV x))] {res:=.tup [zBE (yDh d n x),iv (zK2 d n x)]}:=zVB d n x
 have g1:=zE3 (yC2 d up at' e) (zFm d up at' e) yC3
 have g2:=zE3 (yDg d n) (zP2 d n) yC4
 have g3:=zE3 (yDh d n x) (zK2 d n x) yC5
 have s0:=zCw (pgD 0 (zAi d) d) (pgX 0 (zAi d) d)
 obtain ⟨w,hw⟩:∃ w,w=zHr d ix:=⟨_,rfl⟩
 obtain ⟨c0,hc0⟩:∃ c,c=zAi d:=⟨_,rfl⟩
 obtain ⟨c1,hc1⟩:∃ c,c=zFm d up at' e:=⟨_,rfl⟩
 obtain ⟨c2,hc2⟩:∃ c,c=zP2 d n:=⟨_,rfl⟩
 obtain ⟨c3,hc3⟩:∃ c,c=zK2 d n x:=⟨_,rfl⟩
 obtain ⟨r1,hr1⟩:∃ r,r=yC2 d up at' e:=⟨_,rfl⟩
 obtain ⟨r2,hr2⟩:∃ r,r=yDg d n:=⟨_,rfl⟩
 obtain ⟨r3,hr3⟩:∃ r,r=yDh d n x:=⟨_,rfl⟩
 rw [←hw] at h1 h2 h3 hPE
 rw [←hc0] at hO hC hPO s0
 rw [←hc1,←hr1] at h1 hI g1
 rw [←hc2,←hr2] at h2 hR g2
 rw [←hc3,←hr3] at h3 hP g3
 rw [pgV] at hO hPO
 have b0:(c0==c0)=true:=by simp
 have b1:(c1==c1)=true:=by simp
 have b2:(c2==c2)=true:=by simp
 have b3:(c3==c3)=true:=by simp
 have bw:(w==w)=true:=by simp
 obtain ⟨D0,hD0⟩:∃ D,D=pgD 0 c0 d:=⟨_,rfl⟩
 obtain ⟨X0,hX0⟩:∃ D,D=pgX 0 c0 d:=⟨_,rfl⟩
 rw [←hD0,←hX0] at hO hPO s0
 unfold ndV at h3 hP ⊢
 unfold zD6 at h1 h2 h3 hPE s0 ⊢
 unfold zBE at hO h1 hC hPO hI hR hP g1 g2 g3 ⊢
 by_cases h0:w=0
 ·subst h0
  have e1:pgE 0 c1=c1:=rfl
  have e2:pgE 0 c2=c2:=rfl
  have e3:pgE 0 c3=c3:=rfl
  rw [e1,pgV] at h1
  rw [e2,pgV] at h2
  rw [e3,pgV] at h3
  rw [pgV] at g1 g2 g3
  have s1:=zCw (pgD 0 c1 r1) (pgX 0 c1 r1)
  have s2:=zCw (pgD 0 c2 r2) (pgX 0 c2 r2)
  have s3:=zCw (pgD 0 c3 r3) (pgX 0 c3 r3)
  obtain ⟨D1,hD1⟩:∃ D,D=pgD 0 c1 r1:=⟨_,rfl⟩
  obtain ⟨X1,hX1⟩:∃ D,D=pgX 0 c1 r1:=⟨_,rfl⟩
  obtain ⟨D2,hD2⟩:∃ D,D=pgD 0 c2 r2:=⟨_,rfl⟩
  obtain ⟨X2,hX2⟩:∃ D,D=pgX 0 c2 r2:=⟨_,rfl⟩
  obtain ⟨D3,hD3⟩:∃ D,D=pgD 0 c3 r3:=⟨_,rfl⟩
  obtain ⟨X3,hX3⟩:∃ D,D=pgX 0 c3 r3:=⟨_,rfl⟩
  rw [←hD1,←hX1] at h1 g1 s1
  rw [←hD2,←hX2] at h2 g2 s2
  rw [←hD3,←hX3] at h3 g3 s3
  unfold zD6 at s1 s2 s3
  refine mkA zE1 (base:=0) (fo rfl) (fun hfit=>?_)
  unfold F0 zDJ
  simp (maxSteps:=2000000) only [zAM,List.set_cons_succ,List.set_cons_zero,List.map_cons,List.map_nil,zAL,zAa,ioOf,List.length_cons,List.length_nil,Nat.reduceAdd,Nat.reduceSub,List.replicate,List.cons_append,List.nil_append]
  try simp (maxSteps:=2000000) only [go_sem]
  repeat with_reducible refine zAb ?_
  refine zAW (by repeat' constructor) (hO) ?_
  try simp (maxSteps:=2000000) only [go_sem]
  repeat with_reducible refine zAb ?_
  refine zAW (by repeat' constructor) (h1) ?_
  try simp (maxSteps:=2000000) only [go_sem]
  repeat with_reducible refine zAb ?_
  refine zAW (by repeat' constructor) (h2) ?_
  try simp (maxSteps:=2000000) only [go_sem]
  repeat with_reducible refine zAb ?_
  refine zAW (by repeat' constructor) (h3) ?_
  try simp (maxSteps:=2000000) only [go_sem]
  repeat with_reducible refine zAb ?_
  refine zAq (by repeat' constructor) (hC) ?_
  try simp (maxSteps:=2000000) only [go_sem]
  repeat with_reducible refine zAb ?_
  refine zAW (by repeat' constructor) (hPO) ?_
  try simp (maxSteps:=2000000) only [go_sem]
  repeat with_reducible refine zAb ?_
  refine zAq (by repeat' constructor) (hPE) ?_
  try simp (maxSteps:=2000000) only [go_sem]
  repeat with_reducible refine zAb ?_
  refine zVW (by rfl) trivial ?_
  try simp (maxSteps:=2000000) only [go_sem]
  repeat with_reducible refine zAb ?_
  refine zAW (by repeat' constructor) (hI) ?_
  try simp (maxSteps:=2000000) only [go_sem]
  repeat with_reducible refine zAb ?_
  refine zAW (by repeat' constructor) (g1) ?_
  try simp (maxSteps:=2000000) only [go_sem]
  repeat with_reducible refine zAb ?_
  refine zAW (by repeat' constructor) (hR) ?_
  try simp (maxSteps:=2000000) only [go_sem]
  repeat with_reducible refine zAb ?_
  refine zAW (by repeat' constructor) (g2) ?_
  try simp (maxSteps:=2000000) only [go_sem]
  repeat with_reducible refine zAb ?_
  refine zAW (by repeat' constructor) (hP) ?_
  try simp (maxSteps:=2000000) only [go_sem]
  repeat with_reducible refine zAb ?_
  refine zAW (by repeat' constructor) (g3) ?_
  try simp (maxSteps:=2000000) only [go_sem]
  repeat with_reducible refine zAb ?_
  refine zAq (by repeat' constructor) (zHB) ?_
  try simp (maxSteps:=2000000) only [go_sem,b0,b1,b2,b3]
  repeat with_reducible refine zAb ?_
  apply zAB (h2:=fun _=>s0)
  ·(simp (maxSteps:=2000000) only [go_sem];rfl)
  ·intro h;repeat' (first|exact trivial|exact h|refine And.intro ?_ ?_)
  try simp (maxSteps:=2000000) only [go_sem]
  repeat with_reducible refine zAb ?_
  apply zAB (h2:=fun _=>s1)
  ·(simp (maxSteps:=2000000) only [go_sem];rfl)
  ·intro h;repeat' (first|exact trivial|exact h|refine And.intro ?_ ?_)
  try simp (maxSteps:=2000000) only [go_sem]
  repeat with_reducible refine zAb ?_
  apply zAB (h2:=fun _=>s2)
  ·(simp (maxSteps:=2000000) only [go_sem];rfl)
  ·intro h;repeat' (first|exact trivial|exact h|refine And.intro ?_ ?_)
  try simp (maxSteps:=2000000) only [go_sem]
  repeat with_reducible refine zAb ?_
  apply zAB (h2:=fun _=>s3)
  ·(simp (maxSteps:=2000000) only [go_sem];rfl)
  ·intro h;repeat' (first|exact trivial|exact h|refine And.intro ?_ ?_)
  try simp (maxSteps:=2000000) only [go_sem]
  repeat with_reducible refine zAb ?_
  exact zAj rfl trivial (.inl rfl)
 ·have gw:(w==0)=false:=by simp [h0]
  have e1:pgE w c1=w:=if_pos h0
  have e2:pgE w c2=w:=if_pos h0
  have e3:pgE w c3=w:=if_pos h0
  rw [e1,yEq h0] at h1
  rw [e2,yEq h0] at h2
  rw [e3,yEq h0] at h3
  have sE:=zCw [] []
  unfold zD6 at sE
  refine mkA zE1 (base:=0) (fo rfl) (fun hfit=>?_)
  unfold F0 zDJ
  simp (maxSteps:=2000000) only [zAM,List.set_cons_succ,List.set_cons_zero,List.map_cons,List.map_nil,zAL,zAa,ioOf,List.length_cons,List.length_nil,Nat.reduceAdd,Nat.reduceSub,List.replicate,List.cons_append,List.nil_append]
  try simp (maxSteps:=2000000) only [go_sem]
  repeat with_reducible refine zAb ?_
  refine zAW (by repeat' constructor) (hO) ?_
  try simp (maxSteps:=2000000) only [go_sem]
  repeat with_reducible refine zAb ?_
  refine zAW (by repeat' constructor) (h1) ?_
  try simp (maxSteps:=2000000) only [go_sem]
  repeat with_reducible refine zAb ?_
  refine zAW (by repeat' constructor) (h2) ?_
  try simp (maxSteps:=2000000) only [go_sem]
  repeat with_reducible refine zAb ?_
  refine zAW (by repeat' constructor) (h3) ?_
  try simp (maxSteps:=2000000) only [go_sem]
  repeat with_reducible refine zAb ?_
  refine zAq (by repeat' constructor) (hC) ?_
  try simp (maxSteps:=2000000) only [go_sem]
  repeat with_reducible refine zAb ?_
  refine zAW (by repeat' constructor) (hPO) ?_
  try simp (maxSteps:=2000000) only [go_sem]
  repeat with_reducible refine zAb ?_
  refine zAq (by repeat' constructor) (hPE) ?_
  try simp (maxSteps:=2000000) only [go_sem,gw]
  repeat with_reducible refine zAb ?_
  refine zNC (by rfl) trivial ?_
  try simp (maxSteps:=2000000) only [go_sem]
  repeat with_reducible refine zAb ?_
  refine zAq (by repeat' constructor) (zHB) ?_
  try simp (maxSteps:=2000000) only [go_sem,b0,bw]
  repeat with_reducible refine zAb ?_
  apply zAB (h2:=fun _=>s0)
  ·(simp (maxSteps:=2000000) only [go_sem];rfl)
  ·intro h;repeat' (first|exact trivial|exact h|refine And.intro ?_ ?_)
  try simp (maxSteps:=2000000) only [go_sem]
  repeat with_reducible refine zAb ?_
  apply zAB (h2:=fun _=>sE)
  ·(simp (maxSteps:=2000000) only [go_sem];rfl)
  ·intro h;repeat' (first|exact trivial|exact h|refine And.intro ?_ ?_)
  try simp (maxSteps:=2000000) only [go_sem]
  repeat with_reducible refine zAb ?_
  apply zAB (h2:=fun _=>sE)
  ·(simp (maxSteps:=2000000) only [go_sem];rfl)
  ·intro h;repeat' (first|exact trivial|exact h|refine And.intro ?_ ?_)
  try simp (maxSteps:=2000000) only [go_sem]
  repeat with_reducible refine zAb ?_
  apply zAB (h2:=fun _=>sE)
  ·(simp (maxSteps:=2000000) only [go_sem];rfl)
  ·intro h;repeat' (first|exact trivial|exact h|refine And.intro ?_ ?_)
  try simp (maxSteps:=2000000) only [go_sem]
  repeat with_reducible refine zAb ?_
  exact zAj rfl trivial (.inl rfl)
end Go.Hx
end
