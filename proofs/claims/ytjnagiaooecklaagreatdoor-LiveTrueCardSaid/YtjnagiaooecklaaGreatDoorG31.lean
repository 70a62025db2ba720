/-
  Walks of functions of the program over an abstract layer, and the laws that they use: each contract says what the function computes, for every input that its conditions let by. No other condition.
-/
import Derived.Test.YtjnagiaooecklaaGreatDoorG10
import Derived.Test.YtjnagiaooecklaaGreatDoorG28
import Derived.Test.YtjnagiaooecklaaGreatDoorG14
import Derived.Test.YtjnagiaooecklaaGreatDoorG30
import Derived.Test.YtjnagiaooecklaaGreatDoorG27
set_option linter.all false
section
set_option maxRecDepth 100000
set_option linter.unusedSimpArgs false
set_option maxHeartbeats 4000000
namespace Go.Hx
open Go.Proofs
variable [Glob] [GlobL]
attribute [local go_sem] zAk zAi zAj zAe ndV zAg zAf zB5 zA2
attribute [local go_sem] reduceCtorEq Nat.reduceAdd Nat.reduceEqDiff reduceIte Nat.reduceLeDiff Nat.reduceLT Nat.reduceSub
def yAV (d:List Nd):PVal:=if zAd d=0 then zHh d (idxOf d) else zHh [] []
theorem zM9 {d:List Nd} (h:zAd d=0):yAV d=.agg [.sl 5 (zEf d),.sl 3 (zCK (idxOf d))]:=by unfold yAV;rw [if_pos h];rfl
theorem yEj {d:List Nd} (h:zAd d≠0):yAV d=.agg [.sl 5 [],.sl 3 []]:=by unfold yAV;rw [if_neg h];rfl
theorem yHz (d:List Nd):∃ x y,yAV d=.agg [x,y]:=by
 by_cases h:zAd d=0
 ·exact ⟨_,_,zM9 h⟩
 ·exact ⟨_,_,yEj h⟩
theorem zLz (d:List Nd):Contract Tryz.prog zEb [.val (zCv d)] {res:=.tup [yAV d,iv (zAd d)]}:=by
 have hB:=zMN d
 obtain ⟨R,hR⟩:∃ R,R=yAV d:=⟨_,rfl⟩
 rw [←hR]
 obtain ⟨e,he⟩:∃ e,e=zAd d:=⟨_,rfl⟩
 rw [←he] at hB ⊢
 unfold zCv at hB ⊢
 refine mkA yAP (base:=0) (fo rfl) (fun hfit=>?_)
 unfold F0 zR8
 refine goU ?_
 refine zAR (by repeat' constructor) (hB) ?_
 refine goW ?_
 refine zAa (by rfl) trivial (fun h0=>?_) (fun h0=>?_)
 ·have h1:e≠0:=by simpa using h0
  rw [yEj (he▸h1)] at hR
  refine goW ?_
  rw [hR]
  exact zAA (by simp) ⟨zAZ rfl rfl (.inr rfl),zAv rfl trivial (.inl rfl),rfl⟩
 have h1:e=0:=by simpa using h0
 rw [zM9 (he.symm.trans h1)] at hR
 obtain ⟨d1,d2,d3⟩:=zBr (he.symm.trans h1)
 subst h1
 have hBe:(if (0:Int)=0 then idxOf d else [])=idxOf d:=if_pos rfl
 rw [hBe]
 refine goW ?_
 refine zAn (fun i:Nat=>[(23,.pv (iv i)),(47,.own zAN 5 (zEf (d.take i))),(49,.un),(50,.un),(51,.un),(52,.un),(53,.un),(8,.un),(24,.un)]) (fun i:Nat=>d.length-i) (fun i:Nat=>i≤d.length) (0) ?_ (Nat.zero_le _) ?_
 focus (exact leA)
 intro i hi
 refine goW ?_
 refine zAa (by rfl) trivial (fun g1=>?_) (fun g1=>?_)
 ·have hil:i < d.length:=by simpa using g1
  obtain ⟨hs1,hs2⟩:=(zCj d3 d2 (zPH hil)).1
  have hx:=zBo d i hil
  have hstep:zEf (d.take (i+1))=zEf (d.take i)++[ndV (d.getD i default)]:=by
   unfold zEf
   rw [List.take_succ_eq_append_getElem hil,List.map_append]
   congr 1
   simp [hil]
  have hl:(zEf (d.take i)).length≤64:=by rw [zAk,List.length_take];omega
  obtain ⟨x,hxe⟩:∃ x,x=d.getD i default:=⟨_,rfl⟩
  rw [←hxe] at hx hs1 hs2 hstep
  obtain ⟨L,hL⟩:∃ L,L=zEf (d.take i):=⟨_,rfl⟩
  rw [←hL] at hstep hl ⊢
  unfold ndV at hx
  try simp (maxSteps:=2000000) only [go_sem,hx]
  repeat with_reducible refine zAP ?_
  refine zBI (by repeat' constructor) (zBR _ hs1) ?_
  refine goW ?_
  refine zBI (by repeat' constructor) (zCf _ hs2) ?_
  refine goW ?_
  refine ⟨i+1,by omega,hil,?_⟩
  rw [hstep]
  exact leA
 ·have hil:i=d.length:=by simp at g1;omega
  rw [hil,List.take_length]
  refine goW ?_
  rw [hR]
  exact zAA (by simp) ⟨zAZ rfl rfl (.inl rfl),zAv rfl trivial (.inl rfl),rfl⟩
end Go.Hx
end

section
set_option maxRecDepth 100000
set_option linter.unusedSimpArgs false
set_option maxHeartbeats 4000000
namespace Go.Hx
open Go.Proofs
variable [Glob] [GlobL]
attribute [local go_sem] zAk zAi zAj zAe ndV zAg zAf zB5 zA2
theorem yNK:zAd smallD=0:=by kernel_rfl
theorem yLE:yAV smallD=.agg [.sl 5 (zEf smallD),.sl 3 (zCK (idxOf smallD))]:=zM9 yNK
theorem yFM:Contract Tryz.prog zLy [] {res:=.val (zHh smallD (idxOf smallD))}:=by
 have hO:=zLz smallD
 rw [yNK,yLE] at hO
 unfold zHh
 refine mkA yDi (base:=0) (fo rfl) (fun hfit=>?_)
 unfold F0 zU5
 refine goU ?_
 refine zAo (by repeat' constructor) (yDp) ?_
 refine goW ?_
 refine zAR (by repeat' constructor) (hO) ?_
 refine goW ?_
 exact zQq rfl rfl rfl
end Go.Hx
end

section
set_option maxRecDepth 100000
set_option linter.unusedSimpArgs false
set_option maxHeartbeats 4000000
namespace Go.Hx
open Go.Proofs
variable [Glob] [GlobL]
attribute [local go_sem] zAk zAi zAj zAe ndV zAg zAf zB5 zA2
theorem zSz {d d':List Nd} (h:∀ i,zAB d i=zAB d' i):∀ (f:Nat) (k:Int),zBk d f k=zBk d' f k
 |0,k=>rfl
 |f+1,k=>by
  simp only [zBk]
  rw [h,zSz h f]
theorem yNO {d:List Nd} {n:Nat} {x:Nd} (hd:zAd d=0) (hn:n < d.length) (hx:zCb x=true):zAd (zPs d n x)=0:=by
 obtain ⟨d1,d2,d3⟩:=zBr hd
 have hlen:(zPs d n x).length=d.length:=by unfold zPs;rw [List.length_set]
 have hget:∀ i,(zPs d n x).getD i default=if n=i∧i < d.length then {x with up:=zAB d n} else d.getD i default:=fun i=>by
  unfold zPs
  simp only [List.getD_eq_getElem?_getD,List.getElem?_set]
  by_cases h:n=i
  ·subst h;simp [hn]
  ·simp [h]
 have hup:∀ i,zAB (zPs d n x) i=zAB d i:=fun i=>by
  show ((zPs d n x).getD i default).up=_
  rw [hget]
  split
  ·rename_i h;rw [h.1]
  ·rfl
 unfold zAd
 rw [hlen,if_pos ⟨d1,d2⟩,if_pos]
 unfold zCF at d3 ⊢
 rw [List.all_eq_true] at d3 ⊢
 intro i hi
 have h3:=d3 i hi
 unfold zVH yHN at h3 ⊢
 rw [Bool.and_eq_true] at h3 ⊢
 refine ⟨?_,?_⟩
 ·rw [hget]
  split
  ·exact hx
  ·exact h3.1
 ·rw [hup,hup,zSz hup];exact h3.2
theorem yHG {P:Go.Program} {F:List Ct} {K:List Ct→Prop} {X:Value→List Ct→Prop} {f:FuncId} {x0:Opd} {caps:List PV} {args:List (Opd×AM)} {d:Option Nat} {x:PVal} {xs:List PVal} {io:List PV} (e:(zAf F x0).pv?=some (.one (.clo f caps))) (n:(zAf F x0).need) (h1:(zBn F args).1)
  (h2:Contract P f ((zBn F args).2++caps.map fun c=>.val (.one c)) {res:=.tup (x::xs),io:=io}) (h3:K (zSC (zAF F (some io) args) d (.tup (x::xs)))):hoW P ⟨none,.callv d x0 args⟩ F K X:=by
 show opW P (.callv d x0 args) F _ X
 simp only [opW,e]
 exact ⟨n,h1,_,h2,h3⟩
def pgE (w c:Int):Int:=if w≠0 then w else c
def pgD (w c:Int) (r:List Nd):List Nd:=if pgE w c=0 then r else []
def pgX (w c:Int) (r:List Nd):List Ent:=if pgE w c=0 then idxOf r else []
def pgR (w c:Int) (r:List Nd):PVal:=zHh (pgD w c r) (pgX w c r)
theorem yPd {w c:Int} {r:List Nd} (h:w≠0):pgR w c r=.agg [.sl 5 [],.sl 3 []]:=by
 have:¬ pgE w c=0:=by unfold pgE;rw [if_pos h];exact h
 unfold pgR pgD pgX;rw [if_neg this,if_neg this];rfl
theorem yNP {c:Int} {r:List Nd} (h:c≠0):pgR 0 c r=.agg [.sl 5 [],.sl 3 []]:=by
 have:¬ pgE 0 c=0:=by unfold pgE;rw [if_neg (by decide)];exact h
 unfold pgR pgD pgX;rw [if_neg this,if_neg this];rfl
theorem yHH {r:List Nd}:pgR 0 0 r=.agg [.sl 5 (zEf r),.sl 3 (zCK (idxOf r))]:=by
 have:pgE 0 0=0:=rfl
 unfold pgR pgD pgX;rw [if_pos this,if_pos this];rfl
theorem zF6 (d:List Nd) (ix:List Ent) (f:Nat) (caps:List PV) (r:List Nd) (c:Int) (hr:c=0→zAd r=0)
  (hc:Contract Tryz.prog f ([.val (zCv d)]++caps.map fun c=>.val (.one c)) {res:=.tup [zCv r,iv c]}):
  Contract Tryz.prog zCC [.val (zHh d ix),.val (.one (.clo f caps))] {res:=.tup [pgR (zFf d ix) c r,iv (pgE (zFf d ix) c)]}:=by
 have hF:=zOB d ix
 have hO:=zLz r
 obtain ⟨w,hw⟩:∃ w,w=zFf d ix:=⟨_,rfl⟩
 rw [←hw] at hF ⊢
 obtain ⟨R,hR⟩:∃ R,R=pgR w c r:=⟨_,rfl⟩
 obtain ⟨E,hE⟩:∃ E,E=pgE w c:=⟨_,rfl⟩
 rw [←hR,←hE]
 unfold zHh at hF ⊢
 unfold zCv at hc hO
 refine mkA zSh (base:=0) (fo rfl) (fun hfit=>?_)
 unfold F0 zKv
 refine goU ?_
 refine zAo (by repeat' constructor) (hF) ?_
 refine goW ?_
 refine zAa (by rfl) trivial (fun h0=>?_) (fun h0=>?_)
 ·have h1:w≠0:=by simpa using h0
  rw [yPd h1] at hR
  have h2:E=w:=by rw [hE];unfold pgE;rw [if_pos h1]
  refine goW ?_
  rw [hR,h2]
  exact zAA (by simp) ⟨zAZ rfl rfl (.inr rfl),zAv rfl trivial (.inl rfl),rfl⟩
 have h1:w=0:=by simpa using h0
 subst h1
 have h2:E=c:=by rw [hE];rfl
 refine goW ?_
 refine yHG (by rfl) trivial (by repeat' constructor) hc ?_
 refine goW ?_
 refine zAa (by rfl) trivial (fun h3=>?_) (fun h3=>?_)
 ·have h4:c≠0:=by simpa using h3
  rw [yNP h4] at hR
  refine goW ?_
  rw [hR,h2]
  exact zAA (by simp) ⟨zAZ rfl rfl (.inr rfl),zAv rfl trivial (.inl rfl),rfl⟩
 have h4:c=0:=by simpa using h3
 subst h4
 have h5:=hr rfl
 rw [h5,zM9 h5] at hO
 rw [yHH] at hR
 refine goW ?_
 refine zAR (by repeat' constructor) (hO) ?_
 refine goW ?_
 rw [hR,h2]
 exact zAA (by simp) ⟨zAZ rfl rfl (.inl rfl),zAv rfl trivial (.inl rfl),rfl⟩
def yJR (d:List Nd) (up at':Int) (e:List Nd):List Nd:=if zPr d up at' e=0 then zBS d up at' e else []
def yJS (d:List Nd) (n:Int):List Nd:=if zYg d n=0 then zCk d n.toNat else []
def yJT (d:List Nd) (n:Int) (x:Nd):List Nd:=if zYh d n x=0 then zPs d n.toNat x else []
theorem yHI {d:List Nd} {up at':Int} {e:List Nd} (h:zPr d up at' e=0):zAd (yJR d up at' e)=0:=by
 obtain ⟨n,_,h2,_⟩:=yJl h
 unfold yJR;rw [if_pos h];exact h2
theorem yHJ {d:List Nd} {n:Int} (h:zYg d n=0):zAd (yJS d n)=0:=by
 unfold yJS
 rw [if_pos h]
 unfold zYg at h
 split at h
 ·rename_i h1
  obtain ⟨h3,h4,h5⟩:=zML h1
  split at h
  ·cases h
  ·exact yNN h3 (by omega) (by omega)
 ·rename_i h1;exact absurd h h1
theorem yHK {d:List Nd} {n:Int} {x:Nd} (h:zYh d n x=0):zAd (yJT d n x)=0:=by
 unfold yJT
 rw [if_pos h]
 unfold zYh at h
 split at h
 ·rename_i h1
  obtain ⟨h3,h4,h5⟩:=zML h1
  split at h
  ·rename_i hx;exact yNO h3 (by omega) hx
  ·cases h
 ·rename_i h1;exact absurd h h1
theorem zSA (d:List Nd) (up at':Int) (e:List Nd):Contract Tryz.prog zC2 [.val (zCv d),.val (.one (.fp [bI up])),.val (.one (.fp [bI at'])),.val (.one (.fp [.sl 5 (zEf e)]))] {res:=.tup [zCv (yJR d up at' e),iv (zPr d up at' e)]}:=by
 have h:=yAU d up at' e
 rw [show (if zPr d up at' e=0 then zBS d up at' e else [])=yJR d up at' e from rfl] at h
 unfold zCv at h ⊢
 refine mkA zPb (base:=0) (fo rfl) (fun hfit=>?_)
 unfold F0 zJo
 refine goU ?_
 refine zAR (by repeat' constructor) (h) ?_
 refine goW ?_
 exact zAA (by simp) ⟨zAZ rfl rfl (.inl rfl),zAv rfl trivial (.inl rfl),rfl⟩
theorem zSB (d:List Nd) (n:Int):Contract Tryz.prog zC3 [.val (zCv d),.val (.one (.fp [bI n]))] {res:=.tup [zCv (yJS d n),iv (zYg d n)]}:=by
 have h:=yAS d n
 rw [show (if zYg d n=0 then zCk d n.toNat else [])=yJS d n from rfl] at h
 unfold zCv at h ⊢
 refine mkA zPe (base:=0) (fo rfl) (fun hfit=>?_)
 unfold F0 zJp
 refine goU ?_
 refine zAR (by repeat' constructor) (h) ?_
 refine goW ?_
 exact zAA (by simp) ⟨zAZ rfl rfl (.inl rfl),zAv rfl trivial (.inl rfl),rfl⟩
theorem yAY (d:List Nd) (n:Int) (x:Nd):Contract Tryz.prog zEz [.val (zCv d),.val (.one (.fp [bI n])),.val (.one (.fp (ndV x)))] {res:=.tup [zCv (yJT d n x),iv (zYh d n x)]}:=by
 have h:=yFL d n x
 rw [show (if zYh d n x=0 then zPs d n.toNat x else [])=yJT d n x from rfl] at h
 unfold zCv ndV at h ⊢
 refine mkA zX6 (base:=0) (fo rfl) (fun hfit=>?_)
 unfold F0 zOC
 refine goU ?_
 refine zAR (by repeat' constructor) (h) ?_
 refine goW ?_
 exact zAA (by simp) ⟨zAZ rfl rfl (.inl rfl),zAv rfl trivial (.inl rfl),rfl⟩
theorem zNc (d:List Nd) (ix:List Ent) (up at':Int) (e:List Nd):Contract Tryz.prog zD0 [.val (zHh d ix),.val (iv up),.val (iv at'),.val (zCv e)] {res:=.tup [pgR (zFf d ix) (zPr d up at' e) (yJR d up at' e),iv (pgE (zFf d ix) (zPr d up at' e))]}:=by
 have h:=zF6 d ix zC2 [.fp [bI up],.fp [bI at'],.fp [.sl 5 (zEf e)]] _ _ yHI (zSA d up at' e)
 unfold pgR at h ⊢
 unfold zHh at h ⊢
 unfold zCv
 refine mkA zUf (base:=0) (fo rfl) (fun hfit=>?_)
 unfold F0 zM6
 refine goU ?_
 refine zAR (by repeat' constructor) (h) ?_
 refine goW ?_
 exact zAA (by simp) ⟨zAZ rfl rfl (.inl rfl),zAv rfl trivial (.inl rfl),rfl⟩
theorem zNd (d:List Nd) (ix:List Ent) (n:Int):Contract Tryz.prog zD1 [.val (zHh d ix),.val (iv n)] {res:=.tup [pgR (zFf d ix) (zYg d n) (yJS d n),iv (pgE (zFf d ix) (zYg d n))]}:=by
 have h:=zF6 d ix zC3 [.fp [bI n]] _ _ yHJ (zSB d n)
 unfold pgR at h ⊢
 unfold zHh at h ⊢
 refine mkA zUi (base:=0) (fo rfl) (fun hfit=>?_)
 unfold F0 zM7
 refine goU ?_
 refine zAR (by repeat' constructor) (h) ?_
 refine goW ?_
 exact zAA (by simp) ⟨zAZ rfl rfl (.inl rfl),zAv rfl trivial (.inl rfl),rfl⟩
theorem zVb (d:List Nd) (ix:List Ent) (n:Int) (x:Nd):Contract Tryz.prog zHi [.val (zHh d ix),.val (iv n),.val (.agg (ndV x))] {res:=.tup [pgR (zFf d ix) (zYh d n x) (yJT d n x),iv (pgE (zFf d ix) (zYh d n x))]}:=by
 have h:=zF6 d ix zEz [.fp [bI n],.fp (ndV x)] _ _ yHK (yAY d n x)
 unfold pgR at h ⊢
 unfold zHh at h ⊢
 unfold ndV at h ⊢
 refine mkA yDe (base:=0) (fo rfl) (fun hfit=>?_)
 unfold F0 zU4
 refine goU ?_
 refine zAR (by repeat' constructor) (h) ?_
 refine goW ?_
 exact zAA (by simp) ⟨zAZ rfl rfl (.inl rfl),zAv rfl trivial (.inl rfl),rfl⟩
end Go.Hx
end
