/-
  Walks of functions of the program over an abstract layer, and the laws that they use: each contract says what the function computes, for every input that its conditions let by. No other condition.
-/
import Derived.Test.YtjnagiaooecklabGreatDoorG13
import Derived.Test.YtjnagiaooecklabGreatDoorG12
import Derived.Test.YtjnagiaooecklabGreatDoorG11
import Derived.Test.YtjnagiaooecklabGreatDoorProg
import Derived.Test.YtjnagiaooecklabGreatDoorG10
set_option linter.all false
section
set_option maxRecDepth 100000
set_option linter.unusedSimpArgs false
namespace Go.Hx
open Go.Proofs
variable [Glob]
inductive Tr where
 |mk (x:Nd) (k:List Tr)
instance:Inhabited Tr:=⟨.mk default []⟩
attribute [local go_sem] zAt zAp zAn zAj ndV zAq List.take_zero List.map_nil
mutual
def trV:Tr→List PV
 |.mk x k=>[bI x.up,bS x.tag,bS x.id,.sl 1 (zRd x.cls),.sl 2 (yAO x.att),.sl 6 (yH0 k)]
def yH0:List Tr→List (List PV)
 |[]=>[]
 |t::r=>trV t::yH0 r
end
theorem yA4:∀ l:List Tr,yH0 l=l.map trV
 |[]=>rfl
 |t::r=>by simp [yH0,yA4 r]
theorem zZY (t:Tr):(trV t).length=6:=by cases t;rfl
attribute [local go_sem] zZY
theorem zVZ (t:Tr):(trV t).map PV.norm=trV t:=by cases t;rfl
attribute [local go_sem] zVZ
theorem zV0:yH0 []=[]:=rfl
attribute [local go_sem] zV0
theorem zV1 (l:List Tr):(yH0 l).length=l.length:=by simp [yA4]
attribute [local go_sem] zV1
theorem zGx {d:List Nd} (hd:zCS d d.length=true) {n:Nat} (h:n < d.length):zBK (d.getD n default)=true:=by
 have:=zAV hd h
 simp only [zWG,Bool.and_eq_true] at this
 exact this.1
theorem zDW {x:Nd} (h:zBK x=true):x.cls.length≤6∧x.att.length≤4:=by
 simp only [zBK,Bool.and_eq_true,decide_eq_true_eq] at h
 exact ⟨h.1.1.1.2,h.1.1.2⟩
end Go.Hx
end

section
set_option maxRecDepth 100000
set_option linter.unusedSimpArgs false
namespace Go.Hx
open Go.Proofs
variable [Glob]
attribute [local go_sem] zAt zAp zAn zAj ndV zAq zV1 zV0 zZY zVZ List.take_zero List.map_nil
end Go.Hx
end

section
set_option maxRecDepth 100000
set_option linter.unusedSimpArgs false
namespace Go.Hx
open Go.Proofs
variable [Glob]
attribute [local go_sem] zAt zAp zAn zAj ndV zAq zV1 zV0 zZY zVZ List.take_zero List.map_nil
theorem zES {d:List Nd} (h:zAy d=0):1≤d.length∧d.length≤64∧zCS d d.length=true:=by
 unfold zAy at h
 split at h
 ·rename_i h1
  split at h
  ·rename_i h2
   exact ⟨h1.1,h1.2,h2⟩
  ·omega
 ·omega
end Go.Hx
end

section
set_option maxRecDepth 100000
set_option linter.unusedSimpArgs false
namespace Go.Hx
open Go.Proofs
variable [Glob]
attribute [local go_sem] zAt zAp zAn zAj ndV zAq zAk
attribute [local go_sem] reduceCtorEq Nat.reduceAdd Nat.reduceEqDiff reduceIte Nat.reduceLeDiff Nat.reduceLT Nat.reduceSub
theorem yHw {a b:Int} (h:zUd a b=0):(-1048576≤a∧a≤1048576)∧(-1048576≤b∧b≤1048576):=by
 unfold zUd at h
 split at h
 ·rename_i h1;simpa [zUc] using h1
 ·cases h
def yJP (a b:Int):PVal:=.agg [bI a,bI b]
theorem zQO (a b:Int):Contract Tryz.prog zFe [.val (yJP a b)] {res:=.val (iv (zUd a b))}:=by
 unfold yJP
 refine mkA zXi (base:=0) (fo rfl) (fun hfit=>?_)
 unfold F0 zP6
 simp (maxSteps:=2000000) only [zAJ,List.set_cons_succ,List.set_cons_zero,List.map_cons,List.map_nil,zAH,zAa,ioOf,List.length_cons,List.length_nil,Nat.reduceAdd,Nat.reduceSub,List.replicate,List.cons_append,List.nil_append]
 try simp (maxSteps:=2000000) only [go_sem]
 repeat with_reducible refine zAb ?_
 refine zAv (fun i:Nat=>[(4,.un),(10,.pv (iv i)),(11,.un),(18,.un)]) (fun i:Nat=>2-i) (fun i:Nat=>i≤2∧(1≤i→zUc a=true)∧(2≤i→zUc b=true)) (0) ?_ ⟨by omega,by omega,by omega⟩ ?_
 focus (simp (maxSteps:=2000000) only [go_sem,zAf,zAl,zAz,zAg];all_goals (repeat' (first|exact trivial|exact zAm (by omega)|exact zAi rfl|exact zAx rfl|exact zAs|exact le_refl _|refine And.intro ?_ ?_)))
 intro i hi
 obtain ⟨h1,h2,h3⟩:=hi
 try simp (maxSteps:=2000000) only [go_sem]
 repeat with_reducible refine zAb ?_
 refine zAc (by rfl) trivial (fun h=>?_) (fun h=>?_)
 ·have hlt:i < 2:=by simp at h;omega
  have hcase:i=0∨i=1:=by omega
  rcases hcase with rfl|rfl
  ·try simp (maxSteps:=2000000) only [go_sem,List.getD_cons_zero,Int.toNat_natCast,Int.cast_ofNat_Int,Int.toNat_zero,PV.norm]
   repeat with_reducible refine zAb ?_
   refine zAc (by rfl) trivial (fun h9=>?_) (fun h9=>?_)
   ·try simp (maxSteps:=2000000) only [go_sem]
    repeat with_reducible refine zAb ?_
    refine zAd rfl trivial (.inl ?_)
    congr 3
    unfold zUd
    rw [if_neg]
    simp [zUc] at h9 ⊢
    omega
   ·try simp (maxSteps:=2000000) only [go_sem]
    repeat with_reducible refine zAb ?_
    refine ⟨1,by omega,⟨by omega,fun _=>?_,by omega⟩,?_⟩
    ·simp [zUc] at h9 ⊢;omega
    ·simp (maxSteps:=2000000) only [go_sem,zAf,zAl,zAz,zAg]
     all_goals (repeat' (first|exact trivial|exact zAm (by omega)|exact zAi rfl|exact zAx rfl|exact zAs|exact le_refl _|refine And.intro ?_ ?_))
  ·try simp (maxSteps:=2000000) only [go_sem,List.getD_cons_zero,List.getD_cons_succ,Int.toNat_natCast,Int.cast_ofNat_Int,Int.toNat_one,PV.norm]
   repeat with_reducible refine zAb ?_
   refine zAc (by rfl) trivial (fun h9=>?_) (fun h9=>?_)
   ·try simp (maxSteps:=2000000) only [go_sem]
    repeat with_reducible refine zAb ?_
    refine zAd rfl trivial (.inl ?_)
    congr 3
    unfold zUd
    rw [if_neg]
    simp [zUc] at h9 ⊢
    omega
   ·try simp (maxSteps:=2000000) only [go_sem]
    repeat with_reducible refine zAb ?_
    refine ⟨2,by omega,⟨by omega,fun _=>h2 (by omega),fun _=>?_⟩,?_⟩
    ·simp [zUc] at h9 ⊢;omega
    ·simp (maxSteps:=2000000) only [go_sem,zAf,zAl,zAz,zAg]
     all_goals (repeat' (first|exact trivial|exact zAm (by omega)|exact zAi rfl|exact zAx rfl|exact zAs|exact le_refl _|refine And.intro ?_ ?_))
 ·try simp (maxSteps:=2000000) only [go_sem]
  repeat with_reducible refine zAb ?_
  have:i=2:=by simp at h;omega
  refine zAd rfl trivial (.inl ?_)
  congr 3
  unfold zUd
  rw [h2 (by omega),h3 (by omega)]
  rfl
def zFm (a b i:Int):Bool:=decide (zUd a b=0∧1≤i∧i≤1073741824)&&(if a=0 then decide (i-b=0) else decide ((i-b).tmod a=0)&&decide (0≤(i-b).tdiv a))
theorem yCb {x y:Int} (h1:-2147483648≤x) (h2:x≤2147483648):-2147483648≤x.tdiv y∧x.tdiv y≤2147483648:=by
 have h:=Int.natAbs_tdiv_le_natAbs x y
 omega
theorem zQP (a b i:Int):Contract Tryz.prog zFf [.val (yJP a b),.val (iv i)] {res:=.val (bv (zFm a b i))}:=by
 unfold yJP
 refine mkA zXq (base:=0) (fo rfl) (fun hfit=>?_)
 unfold F0 zP7
 simp (maxSteps:=2000000) only [zAJ,List.set_cons_succ,List.set_cons_zero,List.map_cons,List.map_nil,zAH,zAa,ioOf,List.length_cons,List.length_nil,Nat.reduceAdd,Nat.reduceSub,List.replicate,List.cons_append,List.nil_append]
 try simp (maxSteps:=2000000) only [go_sem]
 repeat with_reducible refine zAb ?_
 refine zAw (by repeat' constructor) (zQO a b) ?_
 try simp (maxSteps:=2000000) only [go_sem]
 repeat with_reducible refine zAb ?_
 refine zAc (by rfl) trivial (fun h=>?_) (fun h=>?_)
 ·try simp (maxSteps:=2000000) only [go_sem]
  repeat with_reducible refine zAb ?_
  refine zAd rfl trivial (.inl ?_)
  congr 3
  unfold zFm
  rw [decide_eq_false]
  ·rfl
  ·simp at h;omega
 have h2:zUd a b=0∧1≤i∧i≤1073741824:=by simp at h;omega
 obtain ⟨h3,h4⟩:=yHw h2.1
 try simp (maxSteps:=2000000) only [go_sem]
 repeat with_reducible refine zAb ?_
 have hh:zFm a b i=(if a=0 then decide (i-b=0) else decide ((i-b).tmod a=0)&&decide (0≤(i-b).tdiv a)):=by
  unfold zFm
  rw [decide_eq_true h2,Bool.true_and]
 refine zAc (by rfl) trivial (fun h5=>?_) (fun h5=>?_)
 ·try simp (maxSteps:=2000000) only [go_sem]
  repeat with_reducible refine zAb ?_
  refine zAd rfl trivial (.inl ?_)
  congr 3
  rw [hh,if_pos (by simpa using h5)]
  grind
 ·have ha:a≠0:=by simpa using h5
  have hd:=yCb (x:=i-b) (y:=a) (by omega) (by omega)
  try simp (maxSteps:=2000000) only [go_sem,ha]
  repeat with_reducible refine zAb ?_
  refine zAd rfl trivial (.inl ?_)
  congr 3
  rw [hh,if_neg ha]
  grind
def zOH (a b i:Int):Bool:=if zUd a b=0∧1≤i∧i≤1073741824 then (if a=0∨i=b then decide (i=b) else if 0 < a then decide (b < i)&&decide ((i-b).tmod a=0) else decide (i < b)&&decide ((b-i).tmod (-a)=0)) else false
end Go.Hx
end

section
set_option maxRecDepth 100000
set_option linter.unusedSimpArgs false
namespace Go.Hx
open Go.Proofs
variable [Glob]
attribute [local go_sem] zAt zAp zAn zAj ndV zAq zAk zHz
end Go.Hx
end

section
set_option maxRecDepth 100000
set_option linter.unusedSimpArgs false
namespace Go.Hx
open Go.Proofs
variable [Glob]
attribute [local go_sem] zAt zAp zAn zAj ndV zAq zAk zHz
end Go.Hx
end

section
set_option maxRecDepth 100000
set_option linter.unusedSimpArgs false
namespace Go.Hx
open Go.Proofs
variable [Glob]
attribute [local go_sem] zAt zAp zAn zAj ndV zAq zAk zHz List.take_nil
end Go.Hx
end

section
set_option maxRecDepth 100000
set_option linter.unusedSimpArgs false
namespace Go.Hx
open Go.Proofs
variable [Glob]
attribute [local go_sem] zAt zAp zAn zAj ndV zAq zAk zHz List.take_nil
end Go.Hx
end

section
set_option maxRecDepth 100000
set_option linter.unusedSimpArgs false
namespace Go.Hx
open Go.Proofs
variable [Glob]
attribute [local go_sem] zAt zAp zAn zAj ndV zAq zAk zHz List.take_nil zBt zBs
end Go.Hx
end

section
set_option maxRecDepth 100000
set_option linter.unusedSimpArgs false
namespace Go.Hx
open Go.Proofs
variable [Glob]
attribute [local go_sem] zAt zAp zAn zAj ndV zAq zAk zHz List.take_nil zA7
theorem yHx:∀ {l:List Pt} {e:Nat},GPs l e→∀ p∈l,GP p e:=fun h p hp=>by
 obtain ⟨i,hi,rfl⟩:=List.getElem_of_mem hp
 have:=h.get i hi
 simpa [hi] using this
theorem yHy:∀ {l:List St} {e:Nat},GSs l e→∀ p∈l,GS p e:=fun h p hp=>by
 obtain ⟨i,hi,rfl⟩:=List.getElem_of_mem hp
 have:=h.get i hi
 simpa [hi] using this
theorem yHz:∀ {l:List Ts} {e:Nat},GTs l e→∀ p∈l,GT p e:=fun h p hp=>by
 obtain ⟨i,hi,rfl⟩:=List.getElem_of_mem hp
 have:=h.get i hi
 simpa [hi] using this
end Go.Hx
end

section
/-
 Where a count holds: what the program and the document reckon is the same. Plain Lean. No condition.
-/
namespace Go.Hx
variable [Glob] [GlobL]
theorem yDL {x y:Int} (_:y≠0):x.tmod y=0↔∃ k,x=y * k:=by
 constructor
 ·intro h;exact ⟨x.tdiv y,by have:=Int.mul_tdiv_add_tmod x y;omega⟩
 ·rintro ⟨k,rfl⟩;exact Int.mul_tmod_right y k
theorem yCj {a b i:Int} (he:zUd a b=0) (hi:1≤i∧i≤1073741824):zFm a b i=true↔∃ k:Int,0≤k∧i=b+a * k:=by
 unfold zFm
 rw [decide_eq_true ⟨he,hi⟩,Bool.true_and]
 by_cases ha:a=0
 ·subst ha
  rw [if_pos rfl,decide_eq_true_eq]
  constructor
  ·intro h;exact ⟨0,by omega,by omega⟩
  ·rintro ⟨k,_,h⟩;rw [Int.zero_mul] at h;omega
 ·rw [if_neg ha,Bool.and_eq_true,decide_eq_true_eq,decide_eq_true_eq,yDL ha]
  constructor
  ·rintro ⟨⟨k,hk⟩,h2⟩
   rw [hk,Int.mul_tdiv_cancel_left _ ha] at h2
   exact ⟨k,h2,by omega⟩
  ·rintro ⟨k,hk,h⟩
   have e:i-b=a * k:=by omega
   exact ⟨⟨k,e⟩,by rw [e,Int.mul_tdiv_cancel_left _ ha];exact hk⟩
theorem yFp {a b i:Int} (he:zUd a b=0) (hi:1≤i∧i≤1073741824):zOH a b i=true↔∃ k:Int,0≤k∧i=b+a * k:=by
 unfold zOH
 rw [if_pos ⟨he,hi⟩]
 by_cases h1:a=0∨i=b
 ·rw [if_pos h1,decide_eq_true_eq]
  constructor
  ·intro h;exact ⟨0,by omega,by omega⟩
  ·rintro ⟨k,_,h⟩
   rcases h1 with rfl|h1
   ·rw [Int.zero_mul] at h;omega
   ·exact h1
 ·rw [if_neg h1]
  have ha:a≠0:=fun h=>h1 (.inl h)
  by_cases h2:0 < a
  ·rw [if_pos h2,Bool.and_eq_true,decide_eq_true_eq,decide_eq_true_eq,yDL ha]
   constructor
   ·rintro ⟨h3,k,hk⟩
    refine ⟨k,?_,by omega⟩
    apply Classical.byContradiction
    intro hn
    have:=Int.mul_nonpos_of_nonneg_of_nonpos (show 0≤a by omega) (show k≤0 by omega)
    omega
   ·rintro ⟨k,hk,h⟩
    refine ⟨?_,k,by omega⟩
    have:=Int.mul_nonneg (show 0≤a by omega) hk
    omega
  ·rw [if_neg h2,Bool.and_eq_true,decide_eq_true_eq,decide_eq_true_eq,yDL (by omega)]
   constructor
   ·rintro ⟨h3,k,hk⟩
    refine ⟨k,?_,?_⟩
    ·apply Classical.byContradiction
     intro hn
     have:=Int.mul_nonpos_of_nonneg_of_nonpos (show 0≤-a by omega) (show k≤0 by omega)
     omega
    ·rw [Int.neg_mul] at hk;omega
   ·rintro ⟨k,hk,h⟩
    refine ⟨?_,k,by rw [Int.neg_mul];omega⟩
    have:=Int.mul_nonneg (show 0≤-a by omega) hk
    rw [Int.neg_mul] at this
    omega
theorem zYe (a b i:Int):zFm a b i=zOH a b i:=by
 by_cases h:zUd a b=0∧1≤i∧i≤1073741824
 ·have h1:=yCj h.1 h.2
  have h2:=yFp h.1 h.2
  rw [Bool.eq_iff_iff,h1,h2]
 ·unfold zFm zOH
  rw [decide_eq_false h,if_neg h,Bool.false_and]
end Go.Hx
end

section
/-
 The abstract code of functions of the program, printed by gen.py; each stands for the given one. No condition.
-/
namespace Go.Hx
open Go.Proofs
variable [Glob]
end Go.Hx
end

section
/-
 The abstract code of functions of the program, printed by gen.py; each stands for the given one. No condition.
-/
namespace Go.Hx
open Go.Proofs
variable [Glob]
end Go.Hx
end

section
/-
 The abstract code of functions of the program, printed by gen.py; each stands for the given one. No condition.
-/
namespace Go.Hx
open Go.Proofs
variable [Glob]
end Go.Hx
end

section
/-
 The abstract code of functions of the program, printed by gen.py; each stands for the given one. No condition.
-/
namespace Go.Hx
open Go.Proofs
variable [Glob]
abbrev zKD:Nat:=90
abbrev zIE:Nat:=27
abbrev zSD:HCode:=oN [oV 1 (.boxF (.t 0)),
  oV 2 (.mv (.c (.one (.nl 3))))]
abbrev zSE:HCode:=oN [⟨none,.vnl 3 zAD 3⟩]
abbrev zSF:HCode:=oN [oV 4 (.mv (.c (iv 0)))]
abbrev zSG:HCode:=oR [oV 8 (.mv (.t 4)),
  oV 9 (.fldR (.t 1) 0 1),
  oV 10 (.ldR (.t 9) 1 false),
  oV 11 (.len false (.t 10)),
  oV 12 (.ints .lss (.t 8) (.t 11))] [8,9,10,11]
abbrev zSH:HCode:=oR [oV 15 (.fldR (.t 1) 0 1),
  oV 16 (.ldR (.t 15) 1 false),
  oV 17 (.mv (.t 4)),
  oV 18 (.idxA 5 (.t 16) (.t 17)),
  oV 19 (.ldR (.t 18) 5 true),
  oC 20 zKd [(.t 19,.v)],
  ⟨none,.vmv 5 20⟩] [15,16,17,18,19,20]
abbrev zSI:HCode:=oN [oV 6 (.mv (.c (iv 0)))]
abbrev zSJ:HCode:=oR [oV 21 (.mv (.t 6)),
  oV 22 (.mv (.t 5)),
  oV 23 (.len false (.t 22)),
  oV 24 (.ints .lss (.t 21) (.t 23))] [21,22,23]
abbrev zSK:HCode:=oN [oV 7 (.mv (.c (iv 0)))]
abbrev zSL:HCode:=.drgG [.pin 3 0 0 [],.pin 5 0 0 []] [oD 0 false (oV 27 (.mv (.t 7))),
  oD 1 false (oV 28 (.mv (.t 3))),
  oD 2 false (oV 29 (.len false (.t 28))),
  oD 3 false (oV 30 (.ints .lss (.t 27) (.t 29))),
  oD 4 false (oV 31 (.mv (.t 30))),
  oD 5 false (oG 31 true 32 (.mv (.t 5))),
  oD 6 false (oG 31 true 33 (.mv (.t 6))),
  oD 7 false (oG 31 true 34 (.idxA 3 (.t 32) (.t 33))),
  oD 8 false ⟨some (31,true),.vlp 35 (.t 34) 5 0 0 [] 3 true⟩,
  oD 9 false (oG 31 true 36 (.mv (.t 3))),
  oD 10 false (oG 31 true 37 (.mv (.t 7))),
  oD 11 false (oG 31 true 38 (.idxA 3 (.t 36) (.t 37))),
  oD 12 false ⟨some (31,true),.vlp 39 (.t 38) 3 0 0 [] 3 true⟩,
  oD 13 true ⟨some (31,true),.call (some 40) zBF [(.t 35,.v),(.t 39,.v)]⟩,
  oD 14 false (oV 41 (.pick (.t 31) (.t 40) (.c (bv false))))] [.forget [27,28,29,30,31,32,33,34,35,36,37,38,39,40],.unp 3 0 0 [],.unp 5 0 0 []]
abbrev zSM:HCode:=oR [oV 42 (.mv (.t 7)),
  oV 43 (.ints .add (.t 42) (.c (iv 1))),
  oV 7 (.mv (.t 43))] [42,43]
abbrev zQ0:HCode:=.drgG [.pin 3 0 0 [],.pin 5 0 0 []] [oD 0 false (oV 44 (.mv (.t 7))),
  oD 1 false (oV 45 (.mv (.t 3))),
  oD 2 false (oV 46 (.len false (.t 45))),
  oD 3 false (oV 47 (.ints .eql (.t 44) (.t 46))),
  oD 4 false (oV 48 (.mv (.t 47))),
  oD 5 false (oG 48 false 49 (.mv (.t 3))),
  oD 6 false (oG 48 false 50 (.mv (.t 7))),
  oD 7 false (oG 48 false 51 (.idxA 3 (.t 49) (.t 50))),
  oD 8 false ⟨some (48,false),.vlp 52 (.t 51) 3 0 0 [] 3 true⟩,
  oD 9 false (oG 48 false 53 (.mv (.t 5))),
  oD 10 false (oG 48 false 54 (.mv (.t 6))),
  oD 11 false (oG 48 false 55 (.idxA 3 (.t 53) (.t 54))),
  oD 12 false ⟨some (48,false),.vlp 56 (.t 55) 5 0 0 [] 3 true⟩,
  oD 13 true ⟨some (48,false),.call (some 57) zBF [(.t 52,.v),(.t 56,.v)]⟩,
  oD 14 false (oV 58 (.pick (.t 48) (.c (bv true)) (.t 57)))] [.forget [44,45,46,47,48,49,50,51,52,53,54,55,56,57],.unp 3 0 0 [],.unp 5 0 0 []]
abbrev zQ1:HCode:=oR [⟨none,.vmv 59 3⟩,
  oV 60 (.bld [.v (.int .i64 0),.v (mkS []),.nl 1] []),
  oV 61 (.bslF 3 [.t 60]),
  ⟨none,.vap 62 zAD 3 59 (.t 61)⟩,
  ⟨none,.vmv 3 62⟩] [59,60,61,62]
abbrev zQ2:HCode:=.drgG [.pin 3 0 0 []] [oD 0 false (oV 63 (.mv (.t 3))),
  oD 1 false (oV 64 (.mv (.t 7))),
  oD 2 false (oV 65 (.ints .add (.t 64) (.c (iv 1)))),
  oD 3 false (oV 66 (.slr 3 (.t 63) (some (.t 65)) none)),
  oD 4 false (oV 67 (.mv (.t 3))),
  oD 5 false (oV 68 (.mv (.t 7))),
  oD 6 false (oV 69 (.slr 3 (.t 67) (some (.t 68)) none)),
  oD 7 false ⟨none,.cpy (some 70) zAD 3 3 (.t 66) (.t 69)⟩] [.forget [63,64,65,66,67,68,69,70],.unp 3 0 0 []]
abbrev zQ3:HCode:=.regG [.pin 3 0 0 [],.pin 5 0 0 []] [oV 71 (.mv (.t 3)),
  oV 72 (.mv (.t 7)),
  oV 73 (.mv (.t 5)),
  oV 74 (.mv (.t 6)),
  oV 75 (.idxA 3 (.t 73) (.t 74)),
  ⟨none,.vle 76 (.t 75) 5 0 0 [] 3 true⟩,
  oV 77 (.idxA 3 (.t 71) (.t 72)),
  ⟨none,.vse (.t 77) 3 0 0 [] 3 (.t 76)⟩] [.forget [71,72,73,74,75,76,77],.unp 3 0 0 [],.unp 5 0 0 []]
abbrev zDx:HCode:=.regG [.pin 3 0 0 []] [oV 78 (.mv (.t 3)),
  oV 79 (.mv (.t 7)),
  oV 80 (.mv (.t 3)),
  oV 81 (.mv (.t 7)),
  oV 82 (.idxA 3 (.t 80) (.t 81)),
  oV 83 (.fldP (.t 82) 2),
  ⟨none,.vle 84 (.t 83) 3 0 0 [] 1 false⟩,
  oV 85 (.mv (.t 4)),
  oV 86 (.bslF 1 [.t 85]),
  ⟨none,.vap 87 zAC 1 84 (.t 86)⟩,
  oV 88 (.idxA 3 (.t 78) (.t 79)),
  oV 89 (.fldP (.t 88) 2),
  ⟨none,.vse (.t 89) 3 0 0 [] 1 (.t 87)⟩] [.forget [78,79,80,81,82,83,84,85,86,87,88,89],.unp 3 0 0 []]
abbrev zQ4:HCode:=oR [oV 25 (.mv (.t 6)),
  oV 26 (.ints .add (.t 25) (.c (iv 1))),
  oV 6 (.mv (.t 26))] [25,26]
abbrev zQ5:HCode:=oR [oV 13 (.mv (.t 4)),
  oV 14 (.ints .add (.t 13) (.c (iv 1))),
  oV 4 (.mv (.t 14))] [13,14]
abbrev zQ6:HCode:=.regG [.vfr 3 0 0] [oV 90 (.mv (.t 3)),
  oV 2 (.mv (.t 90))] [.forget [90]]
abbrev yAe:HCode:=(.seq zSD (.seq zSE (.seq (.seq zSF (.block 0 (.loop (.seq (.seq zSG (.cond (.t 12) .skip (.exit 0))) (.seq (.block 1 (.seq zSH (.seq zSI (.block 2 (.loop (.seq (.seq zSJ (.cond (.t 24) .skip (.exit 2))) (.seq (.block 3 (.seq zSK (.seq (.block 4 (.loop (.seq (.seq zSL (.cond (.t 41) .skip (.exit 4))) (.block 5 zSM)))) (.seq (.seq zQ0 (.cond (.t 58) (.seq zQ1 (.seq zQ2 zQ3)) .skip)) zDx)))) zQ4))))))) zQ5))))) (.seq zQ6 .ret))))
abbrev zMg:Env:={N:=91,Γ:=[],L:=91,nfix:=0}
abbrev ref_IndexOf_R:List RSrc:=[.tmp 2]
theorem zSN:zB1 Tryz.prog zFA yAe zMg ref_IndexOf_R:=by kernel_rfl
abbrev zYq:HCode:=oN [oV 1 (.boxF (.t 0)),
  ⟨none,.alloc 2 0 45 [.nl 5,.nl 3]⟩,
  oV 3 (.mv (.c (iv 0)))]
abbrev zYr:HCode:=oR [oV 10 (.ldR (.t 1) 1 true),
  oC 11 zCc [(.t 10,.v)],
  oV 9 (.mv (.t 11)),
  oV 12 (.ext 9 0),
  oV 13 (.ext 9 1),
  oV 4 (.mv (.t 12)),
  oV 5 (.mv (.t 13))] [9,10,11,12,13]
abbrev zYs:HCode:=oR [oV 14 (.mv (.t 5)),
  oV 15 (.ints .neq (.t 14) (.c (iv 0)))] [14]
abbrev zYt:HCode:=oR [oV 16 (.bld [.nl 5,.nl 3] []),
  oV 17 (.mv (.t 5)),
  ⟨none,.sto (.t 2) 0 45 0 2 (.t 16)⟩,
  oV 3 (.mv (.t 17))] [16,17]
abbrev zYu:HCode:=oR [oV 18 (.mv (.t 4)),
  oV 19 (.bld [.nl 5,.nl 3] [(1,1,.t 18)]),
  ⟨none,.alloc 6 1 47 [.nl 5,.nl 3]⟩,
  ⟨none,.sto (.t 6) 1 47 0 2 (.t 19)⟩] [18,19]
abbrev zYv:HCode:=oR [oV 20 (.fldR (.t 1) 0 1),
  oV 21 (.ldR (.t 20) 1 false),
  oV 22 (.len false (.t 21)),
  oV 23 (.mv (.c (iv 0)))] [20]
abbrev zYw:HCode:=oN [oV 24 (.ints .lss (.t 23) (.t 22))]
abbrev zYx:HCode:=oR [oV 25 (.idxA 5 (.t 21) (.t 23)),
  oV 26 (.ldR (.t 25) 5 true),
  ⟨none,.alloc 8 2 49 [.v (.int .i64 0),.v (mkS []),.v (mkS []),.nl 1,.nl 2]⟩,
  ⟨none,.sto (.t 8) 2 49 0 5 (.t 26)⟩] [25,26]
abbrev zYy:HCode:=oQ [oD 0 false (oV 27 (.fldP (.t 8) 3)),
  oD 1 false (oV 28 (.ldB (.t 27) 2 49 3 1 false)),
  oD 2 false (oC 29 zCe [(.t 28,.v)]),
  oD 3 false (oV 30 (.fldP (.t 8) 4)),
  oD 4 false (oV 31 (.ldB (.t 30) 2 49 4 1 false)),
  oD 5 false (oC 32 zCD [(.t 31,.v)]),
  oD 6 false (oV 33 (.fldP (.t 8) 3)),
  oD 7 false ⟨none,.sto (.t 33) 2 49 3 1 (.t 29)⟩,
  oD 8 false (oV 34 (.fldP (.t 8) 4)),
  oD 9 false ⟨none,.sto (.t 34) 2 49 4 1 (.t 32)⟩] [27,28,29,30,31,32,33,34]
abbrev zYz:HCode:=oR [oV 35 (.fldP (.t 6) 0),
  oV 36 (.fldP (.t 35) 0),
  ⟨none,.ldo 37 (.t 36) 1 47 0 zJK 5⟩,
  oV 38 (.ldB (.t 8) 2 49 0 5 true),
  oV 39 (.bslF 5 [.t 38]),
  ⟨none,.app 40 zJK 5 (.t 37) (.t 39)⟩,
  oV 41 (.fldP (.t 6) 0),
  oV 42 (.fldP (.t 41) 0),
  ⟨none,.stw (.t 42) 1 47 0 40⟩] [35,36,37,38,39,40,41,42]
abbrev zWd:HCode:=oR [oV 43 (.ints .add (.t 23) (.c (iv 1))),
  oV 23 (.mv (.t 43))] [43]
abbrev zWe:HCode:=oR [oV 44 (.ldB (.t 6) 1 47 0 2 true),
  ⟨none,.sto (.t 2) 0 45 0 2 (.t 44)⟩,
  oV 3 (.mv (.c (iv 0)))] [44]
abbrev yDW:HCode:=(.seq zYq (.seq zYr (.seq (.seq zYs (.cond (.t 15) (.seq zYt .ret) .skip)) (.seq zYu (.seq (.seq zYv (.block 0 (.loop (.seq zYw (.seq (.cond (.t 24) .skip (.exit 0)) (.seq (.block 1 (.seq zYx (.seq zYy zYz))) zWd)))))) (.seq zWe .ret))))))
abbrev zQ7:Env:={N:=45,Γ:=[(45,2),(47,2),(49,5)],L:=54,nfix:=0}
abbrev live_Open_R:List RSrc:=[.cellB 2 0 45 0 2 true,.tmp 3]
theorem zYA:zB1 Tryz.prog zIE yDW zQ7 live_Open_R:=by kernel_rfl
abbrev yAf:HCode:=oN [⟨none,.alloc 0 0 9 [.nl 5,.nl 3]⟩]
abbrev yAg:HCode:=oR [oC 4 zFc [],
  oC 5 zIE [(.t 4,.v)],
  oV 3 (.mv (.t 5)),
  oV 6 (.ext 3 0),
  oV 7 (.ext 3 1),
  ⟨none,.alloc 1 1 11 [.nl 5,.nl 3]⟩,
  ⟨none,.sto (.t 1) 1 11 0 2 (.t 6)⟩,
  oV 2 (.mv (.t 7))] [2,3,4,5,6,7]
abbrev yAh:HCode:=oR [oV 8 (.ldB (.t 1) 1 11 0 2 true),
  ⟨none,.sto (.t 0) 0 9 0 2 (.t 8)⟩] [8]
abbrev yFu:HCode:=(.seq yAf (.seq yAg (.seq yAh .ret)))
abbrev zTt:Env:={N:=9,Γ:=[(9,2),(11,2)],L:=13,nfix:=0}
abbrev law_page_R:List RSrc:=[.cellB 0 0 9 0 2 true]
theorem yAi:zB1 Tryz.prog zKD yFu zTt law_page_R:=by kernel_rfl
end Go.Hx
end

section
set_option maxRecDepth 100000
set_option linter.unusedSimpArgs false
set_option maxHeartbeats 4000000
namespace Go.Hx
open Go.Proofs
variable [Glob]
attribute [local go_sem] zAt zAp zAn zAj ndV zAq zAk atV OVal.cells zWm List.drop_succ_cons List.drop_zero List.take_succ_cons List.getD_nil Nat.sub_zero List.map_nil List.map_cons List.take_zero zDw OV.left List.length_set
attribute [local go_sem ↓] yG4 yG5 yK0
attribute [local go_sem] reduceCtorEq Nat.reduceAdd Nat.reduceEqDiff reduceIte Nat.reduceLeDiff Nat.reduceLT Nat.reduceSub
def kE (k:Key):Ent:=⟨k.1,k.2,[]⟩
def ksO (l:List Key):List (List OV):=ovT zAC (l.map kE)
theorem yDX (l:List Key):(ksO l).length=l.length:=by simp [ksO,zDw]
theorem yHK (a b:List Key):ksO (a++b)=ksO a++ksO b:=by simp [ksO,ovT]
theorem yCp (x:Nd) (hx:x.cls.length≤100):Contract Tryz.prog zKd [.val (.agg (ndV x))] {res:=.ov (.one (.os none zAD 3 (ksO (zEv x))))}:=by
 have hk:zEv x=((1,x.tag)::(if x.id=[] then [] else [(2,x.id)]))++x.cls.map fun c=>((3:Int),c):=rfl
 unfold ndV
 refine mkA zZO (base:=0) (fo rfl) (fun hfit=>?_)
 unfold F0 zTa
 simp (maxSteps:=2000000) only [zAJ,List.set_cons_succ,List.set_cons_zero,List.map_cons,List.map_nil,zAH,zAa,ioOf,List.length_cons,List.length_nil,Nat.reduceAdd,Nat.reduceSub,List.replicate,List.cons_append,List.nil_append]
 try simp (maxSteps:=2000000) only [go_sem]
 repeat with_reducible refine zAb ?_
 refine zAc (by rfl) trivial (fun h1=>?_) (fun h1=>?_)
 have hid:x.id≠[]:=by simpa using h1
 rw [if_neg hid] at hk
 try simp (maxSteps:=2000000) only [go_sem]
 repeat with_reducible refine zAb ?_
 obtain ⟨K0,hK0⟩:∃ k,k=[((1:Int),x.tag),(2,x.id)]:=⟨_,rfl⟩
 rw [←hK0] at hk
 have hKl:K0.length≤2:=by rw [hK0];simp
 have hKr:ksO K0=[[.p (.v (.int .i64 1)),.p (bS x.tag),.os none zAC 1 []],[.p (.v (.int .i64 2)),.p (bS x.id),.os none zAC 1 []]]:=by rw [hK0];rfl
 rotate_left
 have hid:x.id=[]:=by simpa using h1
 rw [if_pos hid] at hk
 try simp (maxSteps:=2000000) only [go_sem]
 repeat with_reducible refine zAb ?_
 obtain ⟨K0,hK0⟩:∃ k,k=[((1:Int),x.tag)]:=⟨_,rfl⟩
 rw [←hK0] at hk
 have hKl:K0.length≤2:=by rw [hK0];simp
 have hKr:ksO K0=[[.p (.v (.int .i64 1)),.p (bS x.tag),.os none zAC 1 []]]:=by rw [hK0];rfl
 all_goals
  refine zAv (fun i:Nat=>[(4,.pv (iv i)),(3,.ov (.one (.os none zAD 3 (ksO (K0++(x.cls.take i).map fun c=>((3:Int),c)))))),(22,.un)]) (fun i:Nat=>x.cls.length-i) (fun i:Nat=>i≤x.cls.length) (0) ?_ (Nat.zero_le _) ?_
  focus (simp (maxSteps:=2000000) only [go_sem,zAf,zAl,zAz,zAg];all_goals (repeat' (first|exact trivial|exact zAm (by omega)|exact zAi rfl|exact zAx rfl|exact zAs|exact le_refl _|refine And.intro ?_ ?_)))
  ·rw [List.append_nil,hKr];exact zAx rfl
  intro i hi
  have hkl:(ksO (K0++(x.cls.take i).map fun c=>((3:Int),c))).length≤102:=by rw [yDX,List.length_append,List.length_map,List.length_take];omega
  obtain ⟨R,hR⟩:∃ R,R=ksO (K0++(x.cls.take i).map fun c=>((3:Int),c)):=⟨_,rfl⟩
  rw [←hR] at hkl ⊢
  try simp (maxSteps:=2000000) only [go_sem]
  repeat with_reducible refine zAb ?_
  refine zAc (by rfl) trivial (fun g=>?_) (fun g=>?_)
  ·have hil:i < x.cls.length:=by simpa using g
   have hcj:=zGJ x.cls i hil
   try simp (maxSteps:=2000000) only [go_sem,hcj]
   repeat with_reducible refine zAb ?_
   refine ⟨i+1,by omega,by omega,?_⟩
   have e:ksO (K0++(x.cls.take (i+1)).map fun c=>((3:Int),c))=R++[[.p (.v (.int .i64 3)),.p (bS (x.cls.getD i [])),.os none zAC 1 []]]:=by
    rw [hR,List.take_succ_eq_append_getElem hil,List.map_append,←List.append_assoc,yHK]
    simp [ksO,ovT,zYn,zJt,kE,hil]
   rw [e]
   simp (maxSteps:=2000000) only [go_sem,zAf,zAl,zAz,zAg]
   all_goals (repeat' (first|exact trivial|exact zAm (by omega)|exact zAi rfl|exact zAx rfl|exact zAs|exact le_refl _|refine And.intro ?_ ?_))
  ·have hil:i=x.cls.length:=by simp at g;omega
   rw [hil,List.take_length,←hk] at hR
   try simp (maxSteps:=2000000) only [go_sem]
   repeat with_reducible refine zAb ?_
   rw [hR]
   exact yJz rfl
theorem zTu (es:List Ent) (i:Nat) (hi:i≤es.length) (z:List OV) (hz:z.length=3):((zCZ i (ovT zAC es++[z])).getD i []).length=3:=by
 have hl:(List.take i (ovT zAC es++[z])).length=i:=by rw [List.length_take,List.length_append,zDw];simp;omega
 have h3:((ovT zAC es++[z]).getD i []).length=3:=by
  rcases Nat.lt_or_ge i es.length with h|h
  ·rw [List.getD_eq_getElem?_getD,List.getElem?_append_left (by rw [zDw];exact h),←List.getD_eq_getElem?_getD,zQY _ _ _ h];rfl
  ·have:i=es.length:=by omega
   rw [List.getD_eq_getElem?_getD,List.getElem?_append_right (by rw [zDw];omega),zDw,this,Nat.sub_self];exact hz
 unfold zCZ
 rw [List.getD_eq_getElem?_getD,List.getElem?_append_left (by simp [hl]),List.getElem?_append_right (by omega),hl,Nat.sub_self]
 simpa using h3
theorem yDY (es:List Ent) (k:Key) (n:Int) (i:Nat) (hi:i≤es.length) (hj:∀ j,j < i→zAI (es.getD j default).key k=true) (h:i=es.length∨zAI k (es.getD i default).key=true):zNY es k n=(es.take i++kE k::es.drop i).set i ⟨k.1,k.2,[n]⟩:=by
 rw [yBb es i k n hi hj h,List.set_append_right _ _ (by simp;omega)]
 have:i-(es.take i).length=0:=by simp;omega
 rw [this];rfl
theorem yBd (es:List Ent) (i:Nat) (x:Ent) (hi:i≤es.length):(es.take i++x::es.drop i).getD i default=x:=by
 rw [List.getD_eq_getElem?_getD,List.getElem?_append_right (by simp;omega)]
 have:i-(es.take i).length=0:=by simp;omega
 rw [this];rfl
theorem yHL (es:List Ent) (i:Nat) (e:Ent):(ovT zAC es).set i (zYn zAC e)=ovT zAC (es.set i e):=by
 unfold ovT;rw [List.map_set]
theorem zWf (d:List Nd) (h64:d.length≤64) (hcls:∀ i,i < d.length→(d.getD i default).cls.length≤64):Contract Tryz.prog zFA [.val (zHz d)] {res:=.val (.one (.sl 3 (zCj (idxOf d))))}:=by
 unfold zHz
 refine mkA zSN (base:=0) (fo rfl) (fun hfit=>?_)
 unfold F0 zMg
 simp (maxSteps:=2000000) only [zAJ,List.set_cons_succ,List.set_cons_zero,List.map_cons,List.map_nil,zAH,zAa,ioOf,List.length_cons,List.length_nil,Nat.reduceAdd,Nat.reduceSub,List.replicate,List.cons_append,List.nil_append]
 try simp (maxSteps:=2000000) only [go_sem]
 repeat with_reducible refine zAb ?_
 refine zAv (fun n:Nat=>[(4,.pv (iv n)),(3,.ov (.one (.os none zAD 3 (ovT zAC (zBL (zAW d n)))))),(5,.un),(6,.un),(7,.un),(12,.un),(24,.un),(41,.un),(58,.un)]) (fun n:Nat=>d.length-n) (fun n:Nat=>n≤d.length) (0) ?_ (Nat.zero_le _) ?_
 focus (simp (maxSteps:=2000000) only [go_sem,zAf,zAl,zAz,zAg];all_goals (repeat' (first|exact trivial|exact zAm (by omega)|exact zAi rfl|exact zAx rfl|exact zAs|exact le_refl _|refine And.intro ?_ ?_)))
 intro n hn
 try simp (maxSteps:=2000000) only [go_sem]
 repeat with_reducible refine zAb ?_
 refine zAc (by rfl) trivial (fun g1=>?_) (fun g1=>?_)
 ·have hnl:n < d.length:=by simpa using g1
  have hx:=zBC d n hnl
  have hpl:=zEw d n fun j hj=>hcls j (by omega)
  have hc:=hcls n hnl
  have hsu:zAW d (n+1)=zAW d n++(zEv (d.getD n default)).map fun k=>(k,(n:Int)):=rfl
  obtain ⟨x,hxe⟩:∃ x,x=d.getD n default:=⟨_,rfl⟩
  rw [←hxe] at hx hsu hc
  have hK:=yCp x (by omega)
  have hkl:=zMF x
  obtain ⟨ks,hks⟩:∃ k,k=zEv x:=⟨_,rfl⟩
  rw [←hks] at hK hkl hsu
  unfold ndV at hx hK
  obtain ⟨p0,hp0⟩:∃ p,p=zAW d n:=⟨_,rfl⟩
  rw [←hp0] at hpl hsu ⊢
  try simp (maxSteps:=2000000) only [go_sem,hx]
  repeat with_reducible refine zAb ?_
  refine yG6 (by repeat' constructor) (hK) ?_
  try simp (maxSteps:=2000000) only [go_sem]
  repeat with_reducible refine zAb ?_
  refine zAv (fun s:Nat×List (List OV)=>[(6,.pv (iv s.1)),(5,.ov (.one (.os none zAD 3 s.2))),(3,.ov (.one (.os none zAD 3 (ovT zAC (zBL (p0++(ks.take s.1).map fun k=>(k,(n:Int)))))))),(7,.un),(24,.un),(41,.un),(58,.un)]) (fun s:Nat×List (List OV)=>ks.length-s.1) (fun s:Nat×List (List OV)=>s.1≤ks.length∧s.2.length=ks.length∧(∀ j,s.1≤j→j < ks.length→s.2.getD j []=zYn zAC (kE (ks.getD j default)))) ((0,ksO ks)) ?_ ⟨Nat.zero_le _,yDX _,fun j _ hj=>(by simp [ksO,ovT,hj])⟩ ?_
  focus (simp (maxSteps:=2000000) only [go_sem,zAf,zAl,zAz,zAg];all_goals (repeat' (first|exact trivial|exact zAm (by omega)|exact zAi rfl|exact zAx rfl|exact zAs|exact le_refl _|refine And.intro ?_ ?_)))
  ·exact zAx (by rw [List.append_nil])
  rintro ⟨q,R⟩ ⟨hq,hRl,hR⟩
  simp only at hq hRl hR
  try simp (maxSteps:=2000000) only [go_sem,hRl]
  repeat with_reducible refine zAb ?_
  refine zAc (by rfl) trivial (fun g2=>?_) (fun g2=>?_)
  ·have hql:q < ks.length:=by simpa using g2
   have hRq:=hR q (Nat.le_refl _) hql
   obtain ⟨ky,hky⟩:∃ k,k=ks.getD q default:=⟨_,rfl⟩
   rw [←hky] at hRq
   have hstep:p0++(ks.take (q+1)).map (fun k=>(k,(n:Int)))=(p0++(ks.take q).map fun k=>(k,(n:Int)))++[(ky,(n:Int))]:=by
    rw [List.take_succ_eq_append_getElem hql,List.map_append,←List.append_assoc,hky]
    simp [hql]
   obtain ⟨p1,hp1⟩:∃ p,p=p0++(ks.take q).map fun k=>(k,(n:Int)):=⟨_,rfl⟩
   have hp1l:p1.length≤n * 66+66:=by rw [hp1,List.length_append,List.length_map,List.length_take];omega
   have hel:=yCo p1
   have hnode:=fun e=>yAd p1 (e:=e)
   have hins:=zPr p1 (ky,(n:Int))
   rw [←hp1] at hstep ⊢
   rw [←hstep] at hins
   obtain ⟨es,hes⟩:∃ e,e=zBL p1:=⟨_,rfl⟩
   rw [←hes] at hel hnode hins ⊢
   try simp (maxSteps:=2000000) only [go_sem]
   repeat with_reducible refine zAb ?_
   refine zAv (fun i:Nat=>[(7,.pv (iv i)),(5,.ov (.one (.os none zAD 3 R))),(3,.ov (.one (.os none zAD 3 (ovT zAC es)))),(41,.un)]) (fun i:Nat=>es.length-i) (fun i:Nat=>i≤es.length∧∀ j,j < i→zAI (es.getD j default).key ky=true) (0) ?_ ⟨Nat.zero_le _,fun j hj=>absurd hj (Nat.not_lt_zero _)⟩ ?_
   focus (simp (maxSteps:=2000000) only [go_sem,zAf,zAl,zAz,zAg];all_goals (repeat' (first|exact trivial|exact zAm (by omega)|exact zAi rfl|exact zAx rfl|exact zAs|exact le_refl _|refine And.intro ?_ ?_)))
   rintro i ⟨hi,hlt⟩
   have hRq:R.getD q []=[.p (bI ky.1),.p (bS ky.2),.os none zAC 1 []]:=hRq
   have h48:es.length≤4400:=by omega
   have A:i < es.length∧zAI (es.getD i default).key ky=true∨(i=es.length∨i < es.length∧zAI ky (es.getD i default).key=true)∨(i < es.length∧(es.getD i default).key=ky):=by
    rcases Nat.lt_or_ge i es.length with h|h
    ·cases h1:zAI (es.getD i default).key ky with
     |true=>exact .inl ⟨h,rfl⟩
     |false=>
      cases h2:zAI ky (es.getD i default).key with
      |true=>exact .inr (.inl (.inr ⟨h,rfl⟩))
      |false=>exact .inr (.inr ⟨h,zGK h1 h2⟩)
    ·exact .inr (.inl (.inl (by omega)))
   try simp (maxSteps:=2000000) only [go_sem]
   repeat with_reducible refine zAb ?_
   intro b3 b5
   have hB:∀ e:Ent,Contract Tryz.prog zBF [.val (.agg [bI ky.1,bS ky.2,.any]),.val (.agg [bI e.kind,bS e.name,.any])] {res:=.val (bv (zAI e.key ky))}:=fun e=>zG0 ⟨ky.1,ky.2,[]⟩ e .any .any
   have hB2:∀ e:Ent,Contract Tryz.prog zBF [.val (.agg [bI e.kind,bS e.name,.any]),.val (.agg [bI ky.1,bS ky.2,.any])] {res:=.val (bv (zAI ky e.key))}:=fun e=>zG0 e ⟨ky.1,ky.2,[]⟩ .any .any
   rcases A with ⟨hil,hk1⟩|(hie|⟨hil,hk1⟩)|⟨hil,hk1⟩
   ·have t1:decide ((i:Int) < (es.length:Int))=true:=by simpa using hil
    have hei:=zQY zAC es i hil
    have hB:=hB (es.getD i default)
    rw [hk1] at hB
    have hlt':∀ j,j < i+1→zAI (es.getD j default).key ky=true:=fun j hj=>by
     rcases Nat.lt_or_ge j i with h|h
     ·exact hlt j h
     ·have:j=i:=by omega
      rw [this];exact hk1
    obtain ⟨e,he⟩:∃ e,e=es.getD i default:=⟨_,rfl⟩
    rw [←he] at hei hB
    unfold zYn zJt at hei
    try simp (maxSteps:=2000000) only [go_sem,t1,hRq,hei,yBj]
    repeat with_reducible refine zAb ?_
    apply zAu (h2:=fun _=>hB)
    ·(simp (maxSteps:=2000000) only [go_sem];rfl)
    ·intro h;repeat' (first|exact trivial|exact h|refine And.intro ?_ ?_)
    try simp (maxSteps:=2000000) only [go_sem]
    repeat with_reducible refine zAb ?_
    refine zPl (by rfl) trivial ?_
    try simp (maxSteps:=2000000) only [go_sem]
    repeat with_reducible refine zAb ?_
    refine ⟨i+1,by omega,⟨by omega,hlt'⟩,?_⟩
    simp (maxSteps:=2000000) only [go_sem,zAf,zAl,zAz,zAg]
    all_goals (repeat' (first|exact trivial|exact zAm (by omega)|exact zAi rfl|exact zAx rfl|exact zAs|exact le_refl _|refine And.intro ?_ ?_))
   have t1:decide ((i:Int) < (es.length:Int))=false:=by rw [hie];simp
   have t2:((i:Int)==(es.length:Int))=true:=by rw [hie];simp
   have hnew:=yDY es ky n i hi hlt (.inl hie)
   try simp (maxSteps:=2000000) only [go_sem,t1,hRq]
   repeat with_reducible refine zAb ?_
   refine zAu (T:=false) (x:=bv false) (by rfl) (fun h=>by cases h) (fun h=>by cases h) ?_
   try simp (maxSteps:=2000000) only [go_sem]
   repeat with_reducible refine zAb ?_
   refine zK5 (by rfl) trivial ?_
   try simp (maxSteps:=2000000) only [go_sem]
   repeat with_reducible refine zAb ?_
   intro b6 b7
   try simp (maxSteps:=2000000) only [go_sem,t2,Bool.not_true]
   repeat with_reducible refine zAb ?_
   refine zAu (T:=false) (x:=bv false) (by rfl) (fun h=>by cases h) (fun h=>by cases h) ?_
   try simp (maxSteps:=2000000) only [go_sem]
   repeat with_reducible refine zAb ?_
   refine zPl (by rfl) trivial ?_
   try simp (maxSteps:=2000000) only [go_sem]
   repeat with_reducible refine zAb ?_
   obtain ⟨RR,hRR⟩:∃ RR,RR=ovT zAC es++[[OV.p (PV.v (Value.int IntKind.i64 0)),OV.p (PV.v (mkS [])),OV.p (PV.sl 1 [])]]:=⟨_,rfl⟩
   have hRl2:RR.length=es.length+1:=by rw [hRR,List.length_append,zDw];rfl
   have hto:((i:Int)+1).toNat=i+1:=by omega
   rw [←hRR]
   intro b8
   try simp (maxSteps:=2000000) only [go_sem,hRl2,hto]
   repeat with_reducible refine zAb ?_
   refine yJx (b:=b8) (i:=i) (rows:=RR) rfl rfl rfl (by omega) (by omega) (by omega) (by decide) ?_
   obtain ⟨R3,hR3⟩:∃ R3,R3=zCZ i RR:=⟨_,rfl⟩
   have hR3l:R3.length=es.length+1:=by rw [hR3,hRR];exact zYp _ _ _ hi _
   have hrow:(R3.getD i []).length=3:=by rw [hR3,hRR];exact zTu _ _ hi _ rfl
   rw [←hR3]
   have hdr:List.drop 3 (R3.getD i [])=[]:=List.drop_eq_nil_of_le (by omega)
   have hset:R3.set i [OV.p (bI ky.1),.p (bS ky.2),.os none zAC 1 []]=ovT zAC (es.take i++kE ky::es.drop i):=by
    rw [hR3,hRR,zYo _ _ _ hi]
    simp [ovT,zYn,zJt,kE]
   generalize hG14:hwp Tryz.prog zDx=G14
   try simp (maxSteps:=2000000) only [go_sem,hR3l,hRq,hrow,hdr,List.append_nil,hset,OV.left]
   repeat with_reducible refine zAb ?_
   have hR1l:(R.set q [OV.p (bI ky.1),.p (bS ky.2),.hole]).length=ks.length:=by rw [List.length_set];exact hRl
   have hR1:∀ j,q+1≤j→j < ks.length→(R.set q [OV.p (bI ky.1),.p (bS ky.2),.hole]).getD j []=zYn zAC (kE (ks.getD j default)):=fun j h1 h2=>by
    rw [List.getD_eq_getElem?_getD,List.getElem?_set_ne (by omega),←List.getD_eq_getElem?_getD];exact hR j (by omega) h2
   obtain ⟨R1,hR1e⟩:∃ R1,R1=R.set q [OV.p (bI ky.1),.p (bS ky.2),.hole]:=⟨_,rfl⟩
   rw [←hR1e] at hR1l hR1 ⊢
   have hi1:i < (es.take i++kE ky::es.drop i).length:=by simp;omega
   have hl1:(es.take i++kE ky::es.drop i).length≤5000:=by simp;omega
   have hn1:((es.take i++kE ky::es.drop i).getD i default).nodes.length≤5000:=by rw [yBd _ _ _ hi];simp [kE]
   have hins1:zBL (p0++(ks.take (q+1)).map fun k=>(k,(n:Int)))=(es.take i++kE ky::es.drop i).set i ⟨((es.take i++kE ky::es.drop i).getD i default).kind,((es.take i++kE ky::es.drop i).getD i default).name,((es.take i++kE ky::es.drop i).getD i default).nodes++[(n:Int)]⟩:=by
    rw [hins,yBd _ _ _ hi];exact hnew
   obtain ⟨es1,hes1⟩:∃ e,e=es.take i++kE ky::es.drop i:=⟨_,rfl⟩
   rw [←hes1] at hi1 hl1 hn1 hins1 ⊢
   rotate_left
   have t1:decide ((i:Int) < (es.length:Int))=true:=by simpa using hil
   have t2:((i:Int)==(es.length:Int))=false:=by simp;omega
   have hnew:=yDY es ky n i hi hlt (.inr hk1)
   have hei:=zQY zAC es i hil
   have hB:=hB (es.getD i default)
   rw [zGL hk1] at hB
   have hB2:=hB2 (es.getD i default)
   rw [hk1] at hB2
   obtain ⟨e,he⟩:∃ e,e=es.getD i default:=⟨_,rfl⟩
   rw [←he] at hei hB hB2
   unfold zYn zJt at hei
   try simp (maxSteps:=2000000) only [go_sem,t1,hRq,hei,yBj]
   repeat with_reducible refine zAb ?_
   apply zAu (h2:=fun _=>hB)
   ·(simp (maxSteps:=2000000) only [go_sem];rfl)
   ·intro h;repeat' (first|exact trivial|exact h|refine And.intro ?_ ?_)
   try simp (maxSteps:=2000000) only [go_sem]
   repeat with_reducible refine zAb ?_
   refine zK5 (by rfl) trivial ?_
   try simp (maxSteps:=2000000) only [go_sem]
   repeat with_reducible refine zAb ?_
   intro b6 b7
   try simp (maxSteps:=2000000) only [go_sem,t2,Bool.not_false,hRq,hei,yBj]
   repeat with_reducible refine zAb ?_
   apply zAu (h2:=fun _=>hB2)
   ·(simp (maxSteps:=2000000) only [go_sem];rfl)
   ·intro h;repeat' (first|exact trivial|exact h|refine And.intro ?_ ?_)
   try simp (maxSteps:=2000000) only [go_sem]
   repeat with_reducible refine zAb ?_
   refine zPl (by rfl) trivial ?_
   try simp (maxSteps:=2000000) only [go_sem]
   repeat with_reducible refine zAb ?_
   obtain ⟨RR,hRR⟩:∃ RR,RR=ovT zAC es++[[OV.p (PV.v (Value.int IntKind.i64 0)),OV.p (PV.v (mkS [])),OV.p (PV.sl 1 [])]]:=⟨_,rfl⟩
   have hRl2:RR.length=es.length+1:=by rw [hRR,List.length_append,zDw];rfl
   have hto:((i:Int)+1).toNat=i+1:=by omega
   rw [←hRR]
   intro b8
   try simp (maxSteps:=2000000) only [go_sem,hRl2,hto]
   repeat with_reducible refine zAb ?_
   refine yJx (b:=b8) (i:=i) (rows:=RR) rfl rfl rfl (by omega) (by omega) (by omega) (by decide) ?_
   obtain ⟨R3,hR3⟩:∃ R3,R3=zCZ i RR:=⟨_,rfl⟩
   have hR3l:R3.length=es.length+1:=by rw [hR3,hRR];exact zYp _ _ _ hi _
   have hrow:(R3.getD i []).length=3:=by rw [hR3,hRR];exact zTu _ _ hi _ rfl
   rw [←hR3]
   have hdr:List.drop 3 (R3.getD i [])=[]:=List.drop_eq_nil_of_le (by omega)
   have hset:R3.set i [OV.p (bI ky.1),.p (bS ky.2),.os none zAC 1 []]=ovT zAC (es.take i++kE ky::es.drop i):=by
    rw [hR3,hRR,zYo _ _ _ hi]
    simp [ovT,zYn,zJt,kE]
   generalize hG14:hwp Tryz.prog zDx=G14
   try simp (maxSteps:=2000000) only [go_sem,hR3l,hRq,hrow,hdr,List.append_nil,hset,OV.left]
   repeat with_reducible refine zAb ?_
   have hR1l:(R.set q [OV.p (bI ky.1),.p (bS ky.2),.hole]).length=ks.length:=by rw [List.length_set];exact hRl
   have hR1:∀ j,q+1≤j→j < ks.length→(R.set q [OV.p (bI ky.1),.p (bS ky.2),.hole]).getD j []=zYn zAC (kE (ks.getD j default)):=fun j h1 h2=>by
    rw [List.getD_eq_getElem?_getD,List.getElem?_set_ne (by omega),←List.getD_eq_getElem?_getD];exact hR j (by omega) h2
   obtain ⟨R1,hR1e⟩:∃ R1,R1=R.set q [OV.p (bI ky.1),.p (bS ky.2),.hole]:=⟨_,rfl⟩
   rw [←hR1e] at hR1l hR1 ⊢
   have hi1:i < (es.take i++kE ky::es.drop i).length:=by simp;omega
   have hl1:(es.take i++kE ky::es.drop i).length≤5000:=by simp;omega
   have hn1:((es.take i++kE ky::es.drop i).getD i default).nodes.length≤5000:=by rw [yBd _ _ _ hi];simp [kE]
   have hins1:zBL (p0++(ks.take (q+1)).map fun k=>(k,(n:Int)))=(es.take i++kE ky::es.drop i).set i ⟨((es.take i++kE ky::es.drop i).getD i default).kind,((es.take i++kE ky::es.drop i).getD i default).name,((es.take i++kE ky::es.drop i).getD i default).nodes++[(n:Int)]⟩:=by
    rw [hins,yBd _ _ _ hi];exact hnew
   obtain ⟨es1,hes1⟩:∃ e,e=es.take i++kE ky::es.drop i:=⟨_,rfl⟩
   rw [←hes1] at hi1 hl1 hn1 hins1 ⊢
   rotate_left
   have t1:decide ((i:Int) < (es.length:Int))=true:=by simpa using hil
   have t2:((i:Int)==(es.length:Int))=false:=by simp;omega
   have hei:=zQY zAC es i hil
   have hB:=hB (es.getD i default)
   have hB2:=hB2 (es.getD i default)
   have hirr:=zBf ky
   rw [hk1,hirr] at hB hB2
   have hi1:=hil
   have hl1:es.length≤5000:=by omega
   have hn1:(es.getD i default).nodes.length≤5000:=by
    have:=hnode (es.getD i default) (by rw [hes,←hes];simp [hil])
    omega
   have hins1:zBL (p0++(ks.take (q+1)).map fun k=>(k,(n:Int)))=es.set i ⟨(es.getD i default).kind,(es.getD i default).name,(es.getD i default).nodes++[(n:Int)]⟩:=by
    rw [hins,yBc es i ky n hil hlt hk1]
   obtain ⟨e,he⟩:∃ e,e=es.getD i default:=⟨_,rfl⟩
   rw [←he] at hei hB hB2
   unfold zYn zJt at hei
   try simp (maxSteps:=2000000) only [go_sem,t1,hRq,hei,yBj]
   repeat with_reducible refine zAb ?_
   apply zAu (h2:=fun _=>hB)
   ·(simp (maxSteps:=2000000) only [go_sem];rfl)
   ·intro h;repeat' (first|exact trivial|exact h|refine And.intro ?_ ?_)
   try simp (maxSteps:=2000000) only [go_sem]
   repeat with_reducible refine zAb ?_
   refine zK5 (by rfl) trivial ?_
   try simp (maxSteps:=2000000) only [go_sem]
   repeat with_reducible refine zAb ?_
   intro b6 b7
   try simp (maxSteps:=2000000) only [go_sem,t2,Bool.not_false,hRq,hei,yBj]
   repeat with_reducible refine zAb ?_
   apply zAu (h2:=fun _=>hB2)
   ·(simp (maxSteps:=2000000) only [go_sem];rfl)
   ·intro h;repeat' (first|exact trivial|exact h|refine And.intro ?_ ?_)
   try simp (maxSteps:=2000000) only [go_sem]
   repeat with_reducible refine zAb ?_
   refine zK5 (by rfl) trivial ?_
   generalize hG14:hwp Tryz.prog zDx=G14
   try simp (maxSteps:=2000000) only [go_sem]
   repeat with_reducible refine zAb ?_
   have hR1l:=hRl
   have hR1:∀ j,q+1≤j→j < ks.length→R.getD j []=zYn zAC (kE (ks.getD j default)):=fun j h1 h2=>hR j (by omega) h2
   obtain ⟨R1,hR1e⟩:∃ R1,R1=R:=⟨_,rfl⟩
   rw [←hR1e] at hR1l hR1 ⊢
   obtain ⟨es1,hes1⟩:∃ e,e=es:=⟨_,rfl⟩
   rw [←hes1] at hi1 hl1 hn1 hins1 ⊢
   all_goals
    have he1:=zQY zAC es1 i hi1
    obtain ⟨e1,hee⟩:∃ e,e=es1.getD i default:=⟨_,rfl⟩
    rw [←hee] at he1 hn1 hins1
    have hset1:(ovT zAC es1).set i [OV.p (bI e1.kind),OV.p (bS e1.name),OV.os none zAC 1 (e1.nodes.map (fun n=>[OV.p (bI n)])++[[OV.p (bI (n:Int))]])]=ovT zAC (zBL (p0++(ks.take (q+1)).map fun k=>(k,(n:Int)))):=by
     rw [hins1,←yHL];simp [zYn,zJt]
    have hgs:∀ X,((ovT zAC es1).set i X).getD i []=X:=fun X=>by simp [zDw,hi1]
    unfold zYn zJt at he1
    subst hG14
    try simp (maxSteps:=2000000) only [go_sem,he1,zDw,List.length_map,hgs,List.set_set,hset1]
    repeat with_reducible refine zAb ?_
    refine ⟨(q+1,R1),by simp only;omega,⟨by simp only;omega,hR1l,hR1⟩,?_⟩
    simp (maxSteps:=2000000) only [go_sem,zAf,zAl,zAz,zAg]
    all_goals (repeat' (first|exact trivial|exact zAm (by omega)|exact zAi rfl|exact zAx rfl|exact zAs|exact le_refl _|refine And.intro ?_ ?_))
  ·have hql:q=ks.length:=by simp at g2;omega
   rw [hql,List.take_length,←hsu]
   try simp (maxSteps:=2000000) only [go_sem]
   repeat with_reducible refine zAb ?_
   refine ⟨n+1,by omega,by omega,?_⟩
   simp (maxSteps:=2000000) only [go_sem,zAf,zAl,zAz,zAg]
   all_goals (repeat' (first|exact trivial|exact zAm (by omega)|exact zAi rfl|exact zAx rfl|exact zAs|exact le_refl _|refine And.intro ?_ ?_))
 ·have hnl:n=d.length:=by simp at g1;omega
  have hfz:∀ (b:Option Nat) (e:Nat) (es:List Ent),(OV.os b e 3 (ovT zAC es)).frz=some (.sl 3 (zCj es)):=fun b e es=>zWD (zQZ _ _)
  rw [hnl,show zBL (zAW d d.length)=idxOf d from rfl]
  try simp (maxSteps:=2000000) only [go_sem,hfz]
  repeat with_reducible refine zAb ?_
  exact zAd rfl trivial (.inl rfl)
end Go.Hx
end

section
/-
 The abstract code of functions of the program, printed by gen.py; each stands for the given one. No condition.
-/
namespace Go.Hx
open Go.Proofs
variable [Glob]
abbrev zGU:Nat:=62
abbrev zWg:HCode:=oN [oV 0 (.mv (.c (.one (.nl 2))))]
abbrev zWh:HCode:=oR [oV 1 (.bld [.v (.int .i64 0),.v (.int .i64 0)] [(1,1,.c (iv 1))]),
  oV 2 (.bld [.v (.int .i64 0),.v (mkS []),.v (mkS []),.v (.int .i64 0),.v (.int .i64 0),.nl 2] [(0,1,.c (iv 10)),(3,2,.t 1)]),
  oV 3 (.bslF 6 [.t 2]),
  oV 4 (.bld [.v (mkS []),.nl 6] [(1,1,.t 3)]),
  oV 5 (.bslF 2 [.t 4]),
  oV 6 (.bld [.nl 2,.nl 1] [(0,1,.t 5)]),
  oV 7 (.bslF 2 [.t 6]),
  oV 8 (.bld [.v (.int .i64 0),.v (mkS []),.v (mkS []),.v (.int .i64 0),.v (.int .i64 0),.nl 2] [(0,1,.c (iv 13)),(5,1,.t 7)]),
  oV 9 (.bslF 6 [.t 8]),
  oV 10 (.bld [.v (mkS []),.nl 6] [(0,1,.c (sv [105,116,101,109])),(1,1,.t 9)]),
  oV 11 (.bld [.v (.int .i64 0),.v (mkS []),.v (mkS []),.v (.int .i64 0),.v (.int .i64 0),.nl 2] [(0,1,.c (iv 8)),(1,1,.c (sv [116,111])),(2,1,.c (sv [116,119,111]))]),
  oV 12 (.bslF 6 [.t 11]),
  oV 13 (.bld [.v (mkS []),.nl 6] [(1,1,.t 12)]),
  oV 14 (.bslF 2 [.t 13]),
  oV 15 (.bld [.nl 2,.nl 1] [(0,1,.t 14)]),
  oV 16 (.bslF 2 [.t 15]),
  oV 17 (.bld [.v (.int .i64 0),.v (mkS []),.v (mkS []),.v (.int .i64 0),.v (.int .i64 0),.nl 2] [(0,1,.c (iv 15)),(5,1,.t 16)]),
  oV 18 (.bslF 6 [.t 17]),
  oV 19 (.bld [.v (mkS []),.nl 6] [(1,1,.t 18)]),
  oV 20 (.bslF 2 [.t 10,.t 19]),
  oV 21 (.bslF 1 [.c (iv 3)]),
  oV 22 (.bld [.nl 2,.nl 1] [(0,1,.t 20),(1,1,.t 21)]),
  oV 23 (.bld [.v (.int .i64 0),.v (mkS []),.v (mkS []),.v (.int .i64 0),.v (.int .i64 0),.nl 2] [(0,1,.c (iv 2)),(1,1,.c (sv [116,111,112]))]),
  oV 24 (.bslF 6 [.t 23]),
  oV 25 (.bld [.v (mkS []),.nl 6] [(1,1,.t 24)]),
  oV 26 (.bslF 2 [.t 25]),
  oV 27 (.bld [.nl 2,.nl 1] [(0,1,.t 26)]),
  oV 28 (.bslF 2 [.t 22,.t 27]),
  oV 0 (.mv (.t 28))] [1,2,3,4,5,6,7,8,9,10,11,12,13,14,15,16,17,18,19,20,21,22,23,24,25,26,27,28]
abbrev yCq:HCode:=(.seq zWg (.seq zWh .ret))
abbrev zNU:Env:={N:=29,Γ:=[],L:=29,nfix:=0}
abbrev law_looked_R:List RSrc:=[.tmp 0]
theorem zWi:zB1 Tryz.prog zGU yCq zNU law_looked_R:=by kernel_rfl
end Go.Hx
end

section
/-
 The abstract code of functions of the program, printed by gen.py; each stands for the given one. No condition.
-/
namespace Go.Hx
open Go.Proofs
variable [Glob]
abbrev zFp:Nat:=7
abbrev zDN:Nat:=46
abbrev zNk:HCode:=oN [oV 0 (.mv (.c (bv false)))]
abbrev zNl:HCode:=oR [oC 8 zFc [],
  oC 9 zCc [(.t 8,.v)],
  oV 7 (.mv (.t 9)),
  oV 10 (.ext 7 0),
  oV 11 (.ext 7 1),
  oV 1 (.mv (.t 10)),
  oV 2 (.mv (.t 11))] [7,8,9,10,11]
abbrev zNm:HCode:=oR [oV 13 (.mv (.t 1)),
  oC 14 zDt [(.t 13,.v),(.c (iv 3),.v),(.c (sv [97]),.v)],
  oV 12 (.mv (.t 14)),
  oV 15 (.ext 12 0),
  oV 16 (.ext 12 1),
  oV 3 (.mv (.t 15)),
  oV 4 (.mv (.t 16))] [12,13,14,15,16]
abbrev zNn:HCode:=oR [oC 18 zKD [],
  oC 19 zGU [],
  oC 20 zGQ [(.t 18,.v),(.t 19,.v)],
  oV 17 (.mv (.t 20)),
  oV 21 (.ext 17 0),
  oV 22 (.ext 17 1),
  oV 5 (.mv (.t 21)),
  oV 6 (.mv (.t 22))] [17,18,19,20,21,22]
abbrev zNo:HCode:=oR [oV 23 (.mv (.t 2)),
  oV 24 (.ints .eql (.t 23) (.c (iv 0))),
  oV 25 (.mv (.t 24)),
  oG 25 true 26 (.mv (.t 4)),
  oG 25 true 27 (.ints .eql (.t 26) (.c (iv 0))),
  oV 28 (.pick (.t 25) (.t 27) (.c (bv false))),
  oV 29 (.mv (.t 28)),
  oG 29 true 30 (.mv (.t 6)),
  oG 29 true 31 (.ints .eql (.t 30) (.c (iv 0))),
  oV 32 (.pick (.t 29) (.t 31) (.c (bv false))),
  oV 33 (.mv (.t 32)),
  oG 33 true 34 (.mv (.t 1)),
  oG 33 true 35 (.len false (.t 34)),
  oG 33 true 36 (.ints .eql (.t 35) (.c (iv 6))),
  oV 37 (.pick (.t 33) (.t 36) (.c (bv false))),
  oV 38 (.mv (.t 37)),
  oG 38 true 39 (.mv (.t 3)),
  oG 38 true 40 (.bslF 1 [.c (iv 1),.c (iv 4)]),
  ⟨some (38,true),.call (some 41) zBX [(.t 39,.v),(.t 40,.v)]⟩,
  oV 42 (.pick (.t 38) (.t 41) (.c (bv false))),
  oV 43 (.mv (.t 42)),
  oG 43 true 44 (.mv (.t 5)),
  oG 43 true 45 (.bslF 1 [.c (iv 0),.c (iv 2)]),
  ⟨some (43,true),.call (some 46) zBX [(.t 44,.v),(.t 45,.v)]⟩,
  oV 47 (.pick (.t 43) (.t 46) (.c (bv false))),
  oV 0 (.mv (.t 47))] [23,24,25,26,27,28,29,30,31,32,33,34,35,36,37,38,39,40,41,42,43,44,45,46,47]
abbrev zSO:HCode:=(.seq zNk (.seq zNl (.seq zNm (.seq zNn (.seq zNo .ret)))))
abbrev zG3:Env:={N:=48,Γ:=[],L:=48,nfix:=0}
abbrev law_indexBegun_R:List RSrc:=[.tmp 0]
theorem zNp:zB1 Tryz.prog zDN zSO zG3 law_indexBegun_R:=by kernel_rfl
abbrev zMh:HCode:=oN [oV 4 (.boxF (.t 0)),
  oV 8 (.mv (.c (bv false)))]
abbrev zMi:HCode:=oR [oV 19 (.ldR (.t 4) 1 true),
  oC 20 zCc [(.t 19,.v)],
  oV 18 (.mv (.t 20)),
  oV 21 (.ext 18 0),
  oV 22 (.ext 18 1),
  oV 9 (.mv (.t 21)),
  oV 10 (.mv (.t 22))] [18,19,20,21,22]
abbrev zMj:HCode:=oR [oV 23 (.ldR (.t 4) 1 true),
  oC 24 zEy [(.t 23,.v)],
  oV 11 (.mv (.t 24))] [23,24]
abbrev zMk:HCode:=oN [oV 12 (.mv (.c (.one (.nl 3))))]
abbrev zMl:HCode:=oR [oV 25 (.mv (.t 11)),
  oV 26 (.ints .eql (.t 25) (.c (iv 0)))] [25]
abbrev zMm:HCode:=oR [oV 27 (.ldR (.t 4) 1 true),
  oC 28 zFA [(.t 27,.v)],
  oV 12 (.mv (.t 28))] [27,28]
abbrev zMn:HCode:=oR [oV 30 (.mv (.t 1)),
  oV 31 (.mv (.t 2)),
  oV 32 (.mv (.t 3)),
  oC 33 zDt [(.t 30,.v),(.t 31,.v),(.t 32,.v)],
  oV 29 (.mv (.t 33)),
  oV 34 (.ext 29 0),
  oV 35 (.ext 29 1),
  oV 13 (.mv (.t 34)),
  oV 14 (.mv (.t 35))] [29,30,31,32,33,34,35]
abbrev zMo:HCode:=oN [oV 15 (.mv (.c (iv 0)))]
abbrev zMp:HCode:=oN [oV 16 (.mv (.c (.one (.nl 1))))]
abbrev zMq:HCode:=oR [oV 65 (.mv (.t 2)),
  oV 66 (.ints .lss (.t 65) (.c (iv 1))),
  oV 67 (.mv (.t 66)),
  oG 67 false 68 (.mv (.t 2)),
  oG 67 false 69 (.ints .gtr (.t 68) (.c (iv 3))),
  oV 70 (.pick (.t 67) (.c (bv true)) (.t 69)),
  oV 64 (.mv (.t 70))] [65,66,67,68,69,70]
abbrev zKF:HCode:=oN [oV 15 (.mv (.c (iv 4)))]
abbrev zKG:HCode:=oR [oV 72 (.mv (.t 1)),
  oV 73 (.len false (.t 72)),
  oV 74 (.ints .gtr (.t 73) (.c (iv 512))),
  oV 71 (.mv (.t 74))] [72,73,74]
abbrev zKH:HCode:=oN [oV 15 (.mv (.c (iv 2)))]
abbrev zKI:HCode:=oR [oV 36 (.mv (.t 1)),
  oV 37 (.len false (.t 36)),
  oV 38 (.ints .sub (.t 37) (.c (iv 1))),
  oV 17 (.mv (.t 38))] [36,37,38]
abbrev zKJ:HCode:=oR [oV 39 (.mv (.t 17)),
  oV 40 (.ints .geq (.t 39) (.c (iv 0)))] [39]
abbrev zKK:HCode:=oR [oV 43 (.mv (.t 1)),
  oV 44 (.mv (.t 17)),
  oV 45 (.idxA 3 (.t 43) (.t 44)),
  oV 46 (.fldR (.t 45) 0 1),
  oV 47 (.ldR (.t 46) 1 false),
  oV 48 (.mv (.t 2)),
  oV 49 (.ints .eql (.t 47) (.t 48)),
  oV 50 (.mv (.t 49)),
  oG 50 true 51 (.mv (.t 1)),
  oG 50 true 52 (.mv (.t 17)),
  oG 50 true 53 (.idxA 3 (.t 51) (.t 52)),
  oG 50 true 54 (.fldR (.t 53) 1 1),
  oG 50 true 55 (.ldR (.t 54) 1 false),
  oG 50 true 56 (.mv (.t 3)),
  oG 50 true 57 (.strs .eql (.t 55) (.t 56)),
  oV 58 (.pick (.t 50) (.t 57) (.c (bv false)))] [43,44,45,46,47,48,49,50,51,52,53,54,55,56,57]
abbrev zKL:HCode:=oR [oV 59 (.mv (.t 1)),
  oV 60 (.mv (.t 17)),
  oV 61 (.idxA 3 (.t 59) (.t 60)),
  oV 62 (.fldR (.t 61) 2 1),
  oV 63 (.ldR (.t 62) 1 false),
  oV 16 (.mv (.t 63))] [59,60,61,62,63]
abbrev zKM:HCode:=oR [oV 41 (.mv (.t 17)),
  oV 42 (.ints .sub (.t 41) (.c (iv 1))),
  oV 17 (.mv (.t 42))] [41,42]
abbrev zKN:HCode:=oR [oC 75 zDN [],
  oV 76 (.mv (.t 75)),
  oG 76 true 77 (.mv (.t 10)),
  oG 76 true 78 (.mv (.t 11)),
  oG 76 true 79 (.ints .eql (.t 77) (.t 78)),
  oV 80 (.pick (.t 76) (.t 79) (.c (bv false))),
  oV 81 (.mv (.t 80)),
  oG 81 true 82 (.mv (.t 9)),
  oG 81 true 83 (.mv (.t 12)),
  ⟨some (81,true),.call (some 84) zDu [(.t 82,.v),(.t 83,.v)]⟩,
  oV 85 (.pick (.t 81) (.t 84) (.c (bv false))),
  oV 86 (.mv (.t 85)),
  oG 86 true 87 (.mv (.t 14)),
  oG 86 true 88 (.mv (.t 15)),
  oG 86 true 89 (.ints .eql (.t 87) (.t 88)),
  oV 90 (.pick (.t 86) (.t 89) (.c (bv false))),
  oV 91 (.mv (.t 90)),
  oG 91 true 92 (.mv (.t 13)),
  oG 91 true 93 (.mv (.t 16)),
  ⟨some (91,true),.call (some 94) zBX [(.t 92,.v),(.t 93,.v)]⟩,
  oV 95 (.pick (.t 91) (.t 94) (.c (bv false))),
  oV 8 (.mv (.t 95))] [75,76,77,78,79,80,81,82,83,84,85,86,87,88,89,90,91,92,93,94,95]
abbrev zQ9:HCode:=(.seq zMh (.seq zMi (.seq zMj (.seq zMk (.seq (.seq zMl (.cond (.t 26) zMm .skip)) (.seq zMn (.seq zMo (.seq zMp (.seq (.block 0 (.seq zMq (.cond (.t 64) zKF (.seq zKG (.cond (.t 71) zKH (.seq zKI (.block 1 (.loop (.seq (.seq zKJ (.cond (.t 40) .skip (.exit 1))) (.seq (.block 2 (.seq zKK (.cond (.t 58) zKL .skip))) zKM)))))))))) (.seq zKN .ret))))))))))
abbrev zGA:Env:={N:=96,Γ:=[],L:=96,nfix:=0}
abbrev law_IndexBuilds_R:List RSrc:=[.tmp 8]
theorem zMr:zB1 Tryz.prog zFp zQ9 zGA law_IndexBuilds_R:=by kernel_rfl
end Go.Hx
end
