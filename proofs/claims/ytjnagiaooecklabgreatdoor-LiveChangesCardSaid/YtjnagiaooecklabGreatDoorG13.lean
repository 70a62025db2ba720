/-
  Walks of functions of the program over an abstract layer, and the laws that they use: each contract says what the function computes, for every input that its conditions let by. No other condition.
-/
import Derived.Test.YtjnagiaooecklabGreatDoorG10
import Derived.Test.YtjnagiaooecklabGreatDoorG12
import Derived.Test.YtjnagiaooecklabGreatDoorProg
import Derived.Test.YtjnagiaooecklabGreatDoorG11
set_option linter.all false
section
set_option maxRecDepth 100000
set_option linter.unusedSimpArgs false
set_option maxHeartbeats 4000000
namespace Go.Hx
open Go.Proofs
variable [Glob]
attribute [local go_sem] zAh zAm zAk zAg ndV zAr zAp
attribute [local go_sem] reduceCtorEq Nat.reduceAdd Nat.reduceEqDiff reduceIte Nat.reduceLeDiff Nat.reduceLT Nat.reduceSub
def entV (e:Ent):List PV:=[bI e.kind,bS e.name,.sl 1 (zBi e.nodes)]
def zCK (l:List Ent):List (List PV):=l.map entV
theorem zB6 (l:List Ent):(zCK l).length=l.length:=by simp [zCK]
theorem zJY (l:List Ent) (i:Nat) (h:i < l.length):(zCK l).getD i []=entV (l.getD i default):=by simp [zCK,h]
theorem yCA (a:Int):Contract Tryz.prog zCU [.val (iv a)] {res:=.val (bv false)}:=by
 refine mkA zMo (base:=0) (fo rfl) (fun hfit=>?_)
 unfold F0 zHb
 simp (maxSteps:=2000000) only [zAM,List.set_cons_succ,List.set_cons_zero,List.map_cons,List.map_nil,zAL,zAa,ioOf,List.length_cons,List.length_nil,Nat.reduceAdd,Nat.reduceSub,List.replicate,List.cons_append,List.nil_append]
 try simp (maxSteps:=2000000) only [go_sem]
 repeat with_reducible refine zAb ?_
 have e:(a != a)=false:=by simp
 try simp (maxSteps:=2000000) only [go_sem,e]
 repeat with_reducible refine zAb ?_
 exact zAj rfl trivial (.inl rfl)
theorem zWS (a:Bys):Contract Tryz.prog zB1 [.val (sv a)] {res:=.val (bv false)}:=by
 refine mkA zIQ (base:=0) (fo rfl) (fun hfit=>?_)
 unfold F0 zEU
 simp (maxSteps:=2000000) only [zAM,List.set_cons_succ,List.set_cons_zero,List.map_cons,List.map_nil,zAL,zAa,ioOf,List.length_cons,List.length_nil,Nat.reduceAdd,Nat.reduceSub,List.replicate,List.cons_append,List.nil_append]
 try simp (maxSteps:=2000000) only [go_sem]
 repeat with_reducible refine zAb ?_
 have e:(a==a)=true:=by simp
 try simp (maxSteps:=2000000) only [go_sem,e,Bool.not_true]
 repeat with_reducible refine zAb ?_
 exact zAj rfl trivial (.inl rfl)
def yDY (a b:Int):Int:=if a < b then -1 else if a > b then 1 else 0
theorem yCB (a b:Int):Contract Tryz.prog zDs [.val (iv a),.val (iv b)] {res:=.val (iv (yDY a b))}:=by
 unfold yDY
 refine mkA zJL (base:=0) (fo rfl) (fun hfit=>?_)
 unfold F0 zFK
 simp (maxSteps:=2000000) only [zAM,List.set_cons_succ,List.set_cons_zero,List.map_cons,List.map_nil,zAL,zAa,ioOf,List.length_cons,List.length_nil,Nat.reduceAdd,Nat.reduceSub,List.replicate,List.cons_append,List.nil_append]
 try simp (maxSteps:=2000000) only [go_sem]
 repeat with_reducible refine zAb ?_
 refine zAq (by repeat' constructor) (yCA a) ?_
 try simp (maxSteps:=2000000) only [go_sem]
 repeat with_reducible refine zAb ?_
 refine zAq (by repeat' constructor) (yCA b) ?_
 try simp (maxSteps:=2000000) only [go_sem]
 repeat with_reducible refine zAb ?_
 refine zAd (by rfl) trivial (fun h1=>?_) (fun h1=>?_)
 ·cases h1
 ·try simp (maxSteps:=2000000) only [go_sem]
  repeat with_reducible refine zAb ?_
  refine zAd (by rfl) trivial (fun h2=>?_) (fun h2=>?_)
  ·cases h2
  ·try simp (maxSteps:=2000000) only [go_sem]
   repeat with_reducible refine zAb ?_
   refine zAd (by rfl) trivial (fun h3=>?_) (fun h3=>?_)
   ·rw [if_pos (by simpa using h3)]
    try simp (maxSteps:=2000000) only [go_sem]
    repeat with_reducible refine zAb ?_
    exact zAj rfl trivial (.inl rfl)
   ·rw [if_neg (by simpa using h3)]
    try simp (maxSteps:=2000000) only [go_sem]
    repeat with_reducible refine zAb ?_
    refine zAd (by rfl) trivial (fun h4=>?_) (fun h4=>?_)
    ·rw [if_pos (by simpa using h4)]
     try simp (maxSteps:=2000000) only [go_sem]
     repeat with_reducible refine zAb ?_
     exact zAj rfl trivial (.inl rfl)
    ·rw [if_neg (by simpa using h4)]
     try simp (maxSteps:=2000000) only [go_sem]
     repeat with_reducible refine zAb ?_
     exact zAj rfl trivial (.inl rfl)
def yGC (a b:Bys):Int:=if Op.bytesLess a b then -1 else if a=b then 0 else 1
theorem zYC (a b:Bys):Contract Tryz.prog zCs [.val (sv a),.val (sv b)] {res:=.val (iv (yGC a b))}:=by
 unfold yGC
 refine mkA zHm (base:=0) (fo rfl) (fun hfit=>?_)
 unfold F0 zEd
 simp (maxSteps:=2000000) only [zAM,List.set_cons_succ,List.set_cons_zero,List.map_cons,List.map_nil,zAL,zAa,ioOf,List.length_cons,List.length_nil,Nat.reduceAdd,Nat.reduceSub,List.replicate,List.cons_append,List.nil_append]
 try simp (maxSteps:=2000000) only [go_sem]
 repeat with_reducible refine zAb ?_
 refine zAq (by repeat' constructor) (zWS a) ?_
 try simp (maxSteps:=2000000) only [go_sem]
 repeat with_reducible refine zAb ?_
 refine zAq (by repeat' constructor) (zWS b) ?_
 try simp (maxSteps:=2000000) only [go_sem]
 repeat with_reducible refine zAb ?_
 refine zAd (by rfl) trivial (fun h1=>?_) (fun h1=>?_)
 ·cases h1
 ·try simp (maxSteps:=2000000) only [go_sem]
  repeat with_reducible refine zAb ?_
  refine zAd (by rfl) trivial (fun h2=>?_) (fun h2=>?_)
  ·cases h2
  ·try simp (maxSteps:=2000000) only [go_sem]
   repeat with_reducible refine zAb ?_
   refine zAd (by rfl) trivial (fun h3=>?_) (fun h3=>?_)
   ·rw [if_pos h3]
    try simp (maxSteps:=2000000) only [go_sem]
    repeat with_reducible refine zAb ?_
    exact zAj rfl trivial (.inl rfl)
   ·rw [if_neg (by rw [h3];decide)]
    try simp (maxSteps:=2000000) only [go_sem]
    repeat with_reducible refine zAb ?_
    refine zAd (by rfl) trivial (fun h4=>?_) (fun h4=>?_)
    ·rw [if_neg (by rintro rfl;simp at h4)]
     try simp (maxSteps:=2000000) only [go_sem]
     repeat with_reducible refine zAb ?_
     exact zAj rfl trivial (.inl rfl)
    ·rw [if_pos (by simp [h3] at h4;exact h4)]
     try simp (maxSteps:=2000000) only [go_sem]
     repeat with_reducible refine zAb ?_
     exact zAj rfl trivial (.inl rfl)
theorem yJM (x y:Int):Contract Tryz.prog zF2 [.val (.one (.sl 1 [[bI x],[bI y]]))] {res:=.val (iv (if x≠0 then x else y))}:=by
 refine mkA zUT (base:=0) (fo rfl) (fun hfit=>?_)
 unfold F0 zLw
 simp (maxSteps:=2000000) only [zAM,List.set_cons_succ,List.set_cons_zero,List.map_cons,List.map_nil,zAL,zAa,ioOf,List.length_cons,List.length_nil,Nat.reduceAdd,Nat.reduceSub,List.replicate,List.cons_append,List.nil_append]
 try simp (maxSteps:=2000000) only [go_sem]
 repeat with_reducible refine zAb ?_
 refine zAx (fun i:Nat=>[(8,.pv (iv i)),(2,.un),(5,.un),(9,.un),(14,.un)]) (fun i:Nat=>2-i) (fun i:Nat=>i≤2∧(1≤i→x=0)∧(2≤i→y=0)) (0) ?_ ⟨Nat.zero_le _,fun h=>(by omega),fun h=>(by omega)⟩ ?_
 focus (simp (maxSteps:=2000000) only [go_sem,zAn,zAw,zAJ,zAo];all_goals (repeat' (first|exact trivial|exact zAy (by omega)|exact zAu rfl|exact zAN rfl|exact zAA|exact le_refl _|refine And.intro ?_ ?_)))
 rintro i ⟨hi,hx,hy⟩
 rcases (by omega:i=0∨i=1∨i=2) with rfl|rfl|rfl
 ·try simp (maxSteps:=2000000) only [go_sem,List.getD_cons_zero,List.length_cons,List.length_nil]
  repeat with_reducible refine zAb ?_
  refine zAd (by rfl) trivial (fun g1=>?_) (fun g1=>?_)
  ·try simp (maxSteps:=2000000) only [go_sem,List.getD_cons_zero,List.length_cons,List.length_nil]
   repeat with_reducible refine zAb ?_
   refine zAd (by rfl) trivial (fun g2=>?_) (fun g2=>?_)
   ·rw [if_pos (by simpa using g2)]
    try simp (maxSteps:=2000000) only [go_sem]
    repeat with_reducible refine zAb ?_
    exact zAj rfl trivial (.inl rfl)
   ·have h0:x=0:=by simpa using g2
    try simp (maxSteps:=2000000) only [go_sem]
    repeat with_reducible refine zAb ?_
    refine ⟨1,by omega,⟨by omega,fun _=>h0,fun h=>(by omega)⟩,?_⟩
    simp (maxSteps:=2000000) only [go_sem,zAn,zAw,zAJ,zAo]
    all_goals (repeat' (first|exact trivial|exact zAy (by omega)|exact zAu rfl|exact zAN rfl|exact zAA|exact le_refl _|refine And.intro ?_ ?_))
  ·simp at g1
 ·try simp (maxSteps:=2000000) only [go_sem,List.getD_cons_zero,List.getD_cons_succ,List.length_cons,List.length_nil]
  repeat with_reducible refine zAb ?_
  refine zAd (by rfl) trivial (fun g1=>?_) (fun g1=>?_)
  ·try simp (maxSteps:=2000000) only [go_sem,List.getD_cons_zero,List.getD_cons_succ,List.length_cons,List.length_nil]
   repeat with_reducible refine zAb ?_
   refine zAd (by rfl) trivial (fun g2=>?_) (fun g2=>?_)
   ·rw [if_neg (by simpa using hx (by omega))]
    try simp (maxSteps:=2000000) only [go_sem]
    repeat with_reducible refine zAb ?_
    exact zAj rfl trivial (.inl rfl)
   ·have h0:y=0:=by simpa using g2
    try simp (maxSteps:=2000000) only [go_sem]
    repeat with_reducible refine zAb ?_
    refine ⟨2,by omega,⟨by omega,fun _=>hx (by omega),fun _=>h0⟩,?_⟩
    simp (maxSteps:=2000000) only [go_sem,zAn,zAw,zAJ,zAo]
    all_goals (repeat' (first|exact trivial|exact zAy (by omega)|exact zAu rfl|exact zAN rfl|exact zAA|exact le_refl _|refine And.intro ?_ ?_))
  ·simp at g1
 ·try simp (maxSteps:=2000000) only [go_sem,List.length_cons,List.length_nil]
  repeat with_reducible refine zAb ?_
  refine zAd (by rfl) trivial (fun g1=>?_) (fun g1=>?_)
  ·simp at g1
  ·try simp (maxSteps:=2000000) only [go_sem]
   repeat with_reducible refine zAb ?_
   rw [if_neg (by simpa using hx (by omega)),hy (by omega)]
   exact zAj rfl trivial (.inl rfl)
def yDe (a b:Key):Int:=if yDY a.1 b.1≠0 then yDY a.1 b.1 else yGC a.2 b.2
theorem zZ4 (k k':Int) (n n':Bys) (z z':PV):Contract Tryz.prog zBl [.val (.agg [bI k,bS n,z]),.val (.agg [bI k',bS n',z'])] {res:=.val (iv (yDe (k,n) (k',n')))}:=by
 have h1:=yCB k k'
 have h2:=zYC n n'
 have h3:=yJM (yDY k k') (yGC n n')
 refine mkA zQP (base:=0) (fo rfl) (fun hfit=>?_)
 unfold F0 zJN
 simp (maxSteps:=2000000) only [zAM,List.set_cons_succ,List.set_cons_zero,List.map_cons,List.map_nil,zAL,zAa,ioOf,List.length_cons,List.length_nil,Nat.reduceAdd,Nat.reduceSub,List.replicate,List.cons_append,List.nil_append]
 try simp (maxSteps:=2000000) only [go_sem]
 repeat with_reducible refine zAb ?_
 refine zAq (by repeat' constructor) (h1) ?_
 try simp (maxSteps:=2000000) only [go_sem]
 repeat with_reducible refine zAb ?_
 refine zAq (by repeat' constructor) (h2) ?_
 try simp (maxSteps:=2000000) only [go_sem]
 repeat with_reducible refine zAb ?_
 refine zAq (by repeat' constructor) (h3) ?_
 try simp (maxSteps:=2000000) only [go_sem]
 repeat with_reducible refine zAb ?_
 exact zAj rfl trivial (.inl rfl)
theorem yGa (a b:Ent):Contract Tryz.prog zBl [.val (.agg (entV a)),.val (.agg (entV b))] {res:=.val (iv (yDe a.key b.key))}:=zZ4 a.kind b.kind a.name b.name _ _
theorem zSe (a b:Int):(a < b∧yDY a b=-1)∨(a=b∧yDY a b=0)∨(b < a∧yDY a b=1):=by
 unfold yDY
 rcases Int.lt_trichotomy a b with h|h|h
 ·exact .inl ⟨h,by rw [if_pos h]⟩
 ·exact .inr (.inl ⟨h,by rw [if_neg (by omega),if_neg (by omega)]⟩)
 ·exact .inr (.inr ⟨h,by rw [if_neg (by omega),if_pos h]⟩)
theorem yDZ (a b:Key):yDe a b < 0↔zAI a b=true:=by
 unfold yDe zAI
 rcases zSe a.1 b.1 with ⟨h,e⟩|⟨h,e⟩|⟨h,e⟩
 ·rw [e,if_pos (by decide),if_neg (by omega)]
  simp [h]
 ·rw [e,if_neg (by decide),if_pos h]
  unfold yGC
  cases hb:Op.bytesLess a.2 b.2 with
  |true=>simp
  |false=>
   rw [if_neg (by decide)]
   split<;>simp
 ·rw [e,if_pos (by decide),if_neg (by omega)]
  simp;omega
theorem yCC (a b:Key):yDe a b=0↔a=b:=by
 unfold yDe
 rcases zSe a.1 b.1 with ⟨h,e⟩|⟨h,e⟩|⟨h,e⟩
 ·rw [e,if_pos (by decide)]
  simp
  intro h2;rw [h2] at h;omega
 ·rw [e,if_neg (by decide)]
  unfold yGC
  constructor
  ·intro g
   split at g
   ·cases g
   ·split at g
    ·rename_i h2;exact Prod.ext h h2
    ·cases g
  ·rintro rfl
   rw [zGG,if_neg (by decide),if_pos rfl]
 ·rw [e,if_pos (by decide)]
  simp
  intro h2;rw [h2] at h;omega
end Go.Hx
end

section
set_option maxRecDepth 100000
set_option linter.unusedSimpArgs false
namespace Go.Hx
open Go.Proofs
variable [Glob]
attribute [local go_sem] zAh zAm zAk zAg ndV zAr zAp fdV Fd.add fF fR fK Nat.add_zero
end Go.Hx
end

section
set_option maxRecDepth 100000
set_option linter.unusedSimpArgs false
namespace Go.Hx
open Go.Proofs
variable [Glob]
attribute [local go_sem] zAh zAm zAk zAg ndV zAr zAp fdV zGH zBb zBD zBC
theorem zHK {α:Type} {d:α} {l:List α} {i:Nat} (h:i < l.length):l.drop i=l.getD i d::l.drop (i+1):=by
 rw [List.drop_eq_getElem_cons h]
 simp [h]
end Go.Hx
end

section
set_option maxRecDepth 100000
set_option linter.unusedSimpArgs false
set_option maxHeartbeats 4000000
namespace Go.Hx
open Go.Proofs
variable [Glob]
attribute [local go_sem] zAh zAm zAk zAg ndV zAr zAp zB6 entV
attribute [local go_sem] reduceCtorEq Nat.reduceAdd Nat.reduceEqDiff reduceIte Nat.reduceLeDiff Nat.reduceLT Nat.reduceSub
theorem zYD (a b:List Int):Contract Tryz.prog zC1 [.val (.one (.sl 1 (zBi a))),.val (.one (.sl 1 (zBi b)))] {res:=.val (bv (a==b))}:=by
 refine mkA zI1 (base:=0) (fo rfl) (fun hfit=>?_)
 unfold F0 zEV
 simp (maxSteps:=2000000) only [zAM,List.set_cons_succ,List.set_cons_zero,List.map_cons,List.map_nil,zAL,zAa,ioOf,List.length_cons,List.length_nil,Nat.reduceAdd,Nat.reduceSub,List.replicate,List.cons_append,List.nil_append]
 try simp (maxSteps:=2000000) only [go_sem]
 repeat with_reducible refine zAb ?_
 have ha:=zDl (k:=1) hfit.1
 rw [zAg] at ha
 refine zAd (by rfl) trivial (fun h1=>?_) (fun h1=>?_)
 ·try simp (maxSteps:=2000000) only [go_sem]
  repeat with_reducible refine zAb ?_
  refine zAj rfl trivial (.inl ?_)
  congr 3
  have:a≠b:=by rintro rfl;simp at h1
  simp [this]
 have hl:a.length=b.length:=by simp at h1;omega
 try simp (maxSteps:=2000000) only [go_sem]
 repeat with_reducible refine zAb ?_
 refine zAx (fun i:Nat=>[(13,.pv (iv i)),(4,.un),(5,.un),(14,.un),(24,.un)]) (fun i:Nat=>a.length-i) (fun i:Nat=>i≤a.length∧(a.drop i==b.drop i)=(a==b)) (0) ?_ ⟨Nat.zero_le _,rfl⟩ ?_
 focus (simp (maxSteps:=2000000) only [go_sem,zAn,zAw,zAJ,zAo];all_goals (repeat' (first|exact trivial|exact zAy (by omega)|exact zAu rfl|exact zAN rfl|exact zAA|exact le_refl _|refine And.intro ?_ ?_)))
 rintro i ⟨hi,hinv⟩
 try simp (maxSteps:=2000000) only [go_sem]
 repeat with_reducible refine zAb ?_
 refine zAd (by rfl) trivial (fun h2=>?_) (fun h2=>?_)
 ·have hil:i < a.length:=by simp at h2;omega
  have hib:i < b.length:=by omega
  rw [zHK (d:=0) hil,zHK (d:=0) hib] at hinv
  have e1:=zDT a i hil
  have e2:=zDT b i hib
  try simp (maxSteps:=2000000) only [go_sem,e1,e2]
  repeat with_reducible refine zAb ?_
  refine zAd (by rfl) trivial (fun h3=>?_) (fun h3=>?_)
  ·try simp (maxSteps:=2000000) only [go_sem]
   repeat with_reducible refine zAb ?_
   refine zAj rfl trivial (.inl ?_)
   congr 3
   rw [←hinv]
   have:(a.getD i 0==b.getD i 0)=false:=by
    have h4:a.getD i 0≠b.getD i 0:=by simpa using h3
    exact beq_false_of_ne h4
   simp only [List.cons_beq_cons,this,Bool.false_and]
  ·have h4:a.getD i 0=b.getD i 0:=by simpa using h3
   rw [h4] at hinv
   simp only [List.cons_beq_cons,beq_self_eq_true,Bool.true_and] at hinv
   try simp (maxSteps:=2000000) only [go_sem]
   repeat with_reducible refine zAb ?_
   refine ⟨i+1,by omega,⟨by omega,hinv⟩,?_⟩
   simp (maxSteps:=2000000) only [go_sem,zAn,zAw,zAJ,zAo]
   all_goals (repeat' (first|exact trivial|exact zAy (by omega)|exact zAu rfl|exact zAN rfl|exact zAA|exact le_refl _|refine And.intro ?_ ?_))
 ·have hil:i=a.length:=by simp at h2;omega
  try simp (maxSteps:=2000000) only [go_sem]
  repeat with_reducible refine zAb ?_
  refine zAj rfl trivial (.inl ?_)
  congr 3
  rw [←hinv,hil,List.drop_length,hl,List.drop_length]
  rfl
theorem yGb (a b:Ent):(a==b)=(decide (yDe a.key b.key=0)&&(a.nodes==b.nodes)):=by
 rw [Bool.eq_iff_iff]
 simp only [beq_iff_eq,Bool.and_eq_true,decide_eq_true_eq,yCC]
 constructor
 ·rintro rfl;exact ⟨rfl,rfl⟩
 ·rintro ⟨h1,h2⟩;exact Ent.ext' h1 h2
theorem yD0 (a b:Ent):Contract Tryz.prog zDt [.val (.agg (entV a)),.val (.agg (entV b))] {res:=.val (bv (a==b))}:=by
 have h1:=yGa a b
 have h2:=zYD a.nodes b.nodes
 rw [yGb]
 unfold entV at h1 ⊢
 obtain ⟨o,ho⟩:∃ o,o=yDe a.key b.key:=⟨_,rfl⟩
 rw [←ho] at h1 ⊢
 refine mkA zOO (base:=0) (fo rfl) (fun hfit=>?_)
 unfold F0 zIf
 simp (maxSteps:=2000000) only [zAM,List.set_cons_succ,List.set_cons_zero,List.map_cons,List.map_nil,zAL,zAa,ioOf,List.length_cons,List.length_nil,Nat.reduceAdd,Nat.reduceSub,List.replicate,List.cons_append,List.nil_append]
 try simp (maxSteps:=2000000) only [go_sem]
 repeat with_reducible refine zAb ?_
 refine zAq (by repeat' constructor) (h1) ?_
 try simp (maxSteps:=2000000) only [go_sem]
 repeat with_reducible refine zAb ?_
 apply zAB (h2:=fun _=>h2)
 ·(simp (maxSteps:=2000000) only [go_sem];rfl)
 ·intro h;repeat' (first|exact trivial|exact h|refine And.intro ?_ ?_)
 try simp (maxSteps:=2000000) only [go_sem]
 repeat with_reducible refine zAb ?_
 refine zAj rfl trivial (.inl ?_)
 congr 3
 by_cases h:o=0<;>simp [h]
theorem zYE (a b:List Ent):Contract Tryz.prog zBR [.val (.one (.sl 3 (zCK a))),.val (.one (.sl 3 (zCK b))),.val (.one (.clo zDt []))] {res:=.val (bv (a==b))}:=by
 refine mkA zFi (base:=0) (fo rfl) (fun hfit=>?_)
 unfold F0 zC7
 simp (maxSteps:=2000000) only [zAM,List.set_cons_succ,List.set_cons_zero,List.map_cons,List.map_nil,zAL,zAa,ioOf,List.length_cons,List.length_nil,Nat.reduceAdd,Nat.reduceSub,List.replicate,List.cons_append,List.nil_append]
 try simp (maxSteps:=2000000) only [go_sem]
 repeat with_reducible refine zAb ?_
 have ha:=zDl (k:=3) hfit.1
 rw [zB6] at ha
 refine zAd (by rfl) trivial (fun h1=>?_) (fun h1=>?_)
 ·try simp (maxSteps:=2000000) only [go_sem]
  repeat with_reducible refine zAb ?_
  refine zAj rfl trivial (.inl ?_)
  congr 3
  have:a≠b:=by rintro rfl;simp at h1
  simp [this]
 have hl:a.length=b.length:=by simp at h1;omega
 try simp (maxSteps:=2000000) only [go_sem]
 repeat with_reducible refine zAb ?_
 refine zAx (fun i:Nat=>[(17,.pv (iv i)),(6,.un),(7,.un),(8,.un),(9,.un),(18,.un),(30,.un),(32,.un),(33,.un),(34,.un),(35,.un),(36,.un),(37,.un)]) (fun i:Nat=>a.length-i) (fun i:Nat=>i≤a.length∧(a.drop i==b.drop i)=(a==b)) (0) ?_ ⟨Nat.zero_le _,rfl⟩ ?_
 focus (simp (maxSteps:=2000000) only [go_sem,zAn,zAw,zAJ,zAo];all_goals (repeat' (first|exact trivial|exact zAy (by omega)|exact zAu rfl|exact zAN rfl|exact zAA|exact le_refl _|refine And.intro ?_ ?_)))
 rintro i ⟨hi,hinv⟩
 try simp (maxSteps:=2000000) only [go_sem]
 repeat with_reducible refine zAb ?_
 refine zAd (by rfl) trivial (fun h2=>?_) (fun h2=>?_)
 ·have hil:i < a.length:=by simp at h2;omega
  have hib:i < b.length:=by omega
  rw [zHK (d:=default) hil,zHK (d:=default) hib] at hinv
  have e1:=zJY a i hil
  have e2:=zJY b i hib
  have hc:=yD0 (a.getD i default) (b.getD i default)
  unfold entV at e1 e2 hc
  try simp (maxSteps:=2000000) only [go_sem,e1,e2]
  repeat with_reducible refine zAb ?_
  refine zDS (by rfl) trivial (by repeat' constructor) (hc) ?_
  try simp (maxSteps:=2000000) only [go_sem]
  repeat with_reducible refine zAb ?_
  refine zAd (by rfl) trivial (fun h3=>?_) (fun h3=>?_)
  ·try simp (maxSteps:=2000000) only [go_sem]
   repeat with_reducible refine zAb ?_
   refine zAj rfl trivial (.inl ?_)
   congr 3
   rw [←hinv]
   have h4:(a.getD i default==b.getD i default)=false:=by simpa using h3
   simp only [List.cons_beq_cons,h4,Bool.false_and]
  ·have h4:(a.getD i default==b.getD i default)=true:=by simpa using h3
   simp only [List.cons_beq_cons,h4,Bool.true_and] at hinv
   try simp (maxSteps:=2000000) only [go_sem]
   repeat with_reducible refine zAb ?_
   refine ⟨i+1,by omega,⟨by omega,hinv⟩,?_⟩
   simp (maxSteps:=2000000) only [go_sem,zAn,zAw,zAJ,zAo]
   all_goals (repeat' (first|exact trivial|exact zAy (by omega)|exact zAu rfl|exact zAN rfl|exact zAA|exact le_refl _|refine And.intro ?_ ?_))
 ·have hil:i=a.length:=by simp at h2;omega
  try simp (maxSteps:=2000000) only [go_sem]
  repeat with_reducible refine zAb ?_
  refine zAj rfl trivial (.inl ?_)
  congr 3
  rw [←hinv,hil,List.drop_length,hl,List.drop_length]
  rfl
theorem zGd (a b:Ent) (z z':PV):Contract Tryz.prog zBG [.val (.agg [bI a.kind,bS a.name,z]),.val (.agg [bI b.kind,bS b.name,z'])] {res:=.val (bv (zAI b.key a.key))}:=by
 unfold zAI
 show Contract Tryz.prog _ _ {res:=.val (bv (if b.kind=a.kind then Op.bytesLess b.name a.name else decide (b.kind < a.kind)))}
 refine mkA zMl (base:=0) (fo rfl) (fun hfit=>?_)
 unfold F0 zHa
 simp (maxSteps:=2000000) only [zAM,List.set_cons_succ,List.set_cons_zero,List.map_cons,List.map_nil,zAL,zAa,ioOf,List.length_cons,List.length_nil,Nat.reduceAdd,Nat.reduceSub,List.replicate,List.cons_append,List.nil_append]
 try simp (maxSteps:=2000000) only [go_sem]
 repeat with_reducible refine zAb ?_
 refine zAd (by rfl) trivial (fun h1=>?_) (fun h1=>?_)
 ·try simp (maxSteps:=2000000) only [go_sem]
  repeat with_reducible refine zAb ?_
  refine zAj rfl trivial (.inl ?_)
  have h2:b.kind≠a.kind:=by intro e;simp [e] at h1
  rw [if_neg h2]
 ·have h2:a.kind=b.kind:=by simpa using h1
  try simp (maxSteps:=2000000) only [go_sem]
  repeat with_reducible refine zAb ?_
  refine zAj rfl trivial (.inl ?_)
  congr 3
  rw [if_pos h2.symm,Bool.eq_iff_iff]
  cases h3:Op.bytesLess b.name a.name with
  |true=>
   have h4:Op.bytesLess a.name b.name=false:=by
    cases h5:Op.bytesLess a.name b.name with
    |false=>rfl
    |true=>have:=zIu _ _ _ h3 h5;rw [zGG] at this;cases this
   rw [h4]
   have h6:a.name≠b.name:=by intro e;rw [e,zGG] at h3;cases h3
   simp [h6]
  |false=>
   cases h5:Op.bytesLess a.name b.name with
   |true=>simp
   |false=>simp [zNF _ _ h5 h3]
end Go.Hx
end

section
set_option maxRecDepth 100000
set_option linter.unusedSimpArgs false
set_option maxHeartbeats 4000000
namespace Go.Hx
open Go.Proofs
variable [Glob]
attribute [local go_sem] zAh zAm zAk zAg ndV zAr zAp zB6
attribute [local go_sem] reduceCtorEq Nat.reduceAdd Nat.reduceEqDiff reduceIte Nat.reduceLeDiff Nat.reduceLT Nat.reduceSub
theorem zDI (a b:List Ent):Contract Tryz.prog zBN [.val (.one (.sl 3 (zCK a))),.val (.one (.sl 3 (zCK b)))] {res:=.val (bv (a==b))}:=by
 refine mkA zJX (base:=0) (fo rfl) (fun hfit=>?_)
 unfold F0 zFL
 simp (maxSteps:=2000000) only [zAM,List.set_cons_succ,List.set_cons_zero,List.map_cons,List.map_nil,zAL,zAa,ioOf,List.length_cons,List.length_nil,Nat.reduceAdd,Nat.reduceSub,List.replicate,List.cons_append,List.nil_append]
 try simp (maxSteps:=2000000) only [go_sem]
 repeat with_reducible refine zAb ?_
 have ha:=zDl (k:=3) hfit.1
 rw [zB6] at ha
 refine zAd (by rfl) trivial (fun h1=>?_) (fun h1=>?_)
 ·try simp (maxSteps:=2000000) only [go_sem]
  repeat with_reducible refine zAb ?_
  refine zAj rfl trivial (.inl ?_)
  congr 3
  have:a≠b:=by rintro rfl;simp at h1
  simp [this]
 have hl:a.length=b.length:=by simp at h1;omega
 try simp (maxSteps:=2000000) only [go_sem]
 repeat with_reducible refine zAb ?_
 refine zAx (fun i:Nat=>[(5,.pv (iv i)),(4,.un),(14,.un),(54,.un)]) (fun i:Nat=>a.length-i) (fun i:Nat=>i≤a.length∧(a.drop i==b.drop i)=(a==b)) (0) ?_ ⟨Nat.zero_le _,rfl⟩ ?_
 focus (simp (maxSteps:=2000000) only [go_sem,zAn,zAw,zAJ,zAo];all_goals (repeat' (first|exact trivial|exact zAy (by omega)|exact zAu rfl|exact zAN rfl|exact zAA|exact le_refl _|refine And.intro ?_ ?_)))
 rintro i ⟨hi,hinv⟩
 try simp (maxSteps:=2000000) only [go_sem]
 repeat with_reducible refine zAb ?_
 refine zAd (by rfl) trivial (fun h2=>?_) (fun h2=>?_)
 ·have hil:i < a.length:=by simp at h2;omega
  have hib:i < b.length:=by omega
  rw [zHK (d:=default) hil,zHK (d:=default) hib] at hinv
  have e1:=zJY a i hil
  have e2:=zJY b i hib
  obtain ⟨x,hx⟩:∃ x,x=a.getD i default:=⟨_,rfl⟩
  obtain ⟨y,hy⟩:∃ y,y=b.getD i default:=⟨_,rfl⟩
  rw [←hx,←hy] at hinv
  rw [←hx] at e1
  rw [←hy] at e2
  have hc:=zQQ x.nodes y.nodes
  unfold entV at e1 e2
  have hxy:(x==y)=((x.kind==y.kind)&&(x.name==y.name)&&decide (x.nodes=y.nodes)):=by
   rw [Bool.eq_iff_iff]
   simp only [beq_iff_eq,Bool.and_eq_true,decide_eq_true_eq]
   constructor
   ·rintro rfl;exact ⟨⟨rfl,rfl⟩,rfl⟩
   ·rintro ⟨⟨h1,h2⟩,h3⟩;exact Ent.ext' (Prod.ext h1 h2) h3
  try simp (maxSteps:=2000000) only [go_sem,e1,e2]
  repeat with_reducible refine zAb ?_
  apply zAB (h2:=fun _=>hc)
  ·(simp (maxSteps:=2000000) only [go_sem];rfl)
  ·intro h;repeat' (first|exact trivial|exact h|refine And.intro ?_ ?_)
  try simp (maxSteps:=2000000) only [go_sem]
  repeat with_reducible refine zAb ?_
  refine zAd (by rfl) trivial (fun g3=>?_) (fun g3=>?_)
  ·try simp (maxSteps:=2000000) only [go_sem]
   repeat with_reducible refine zAb ?_
   refine zAj rfl trivial (.inl ?_)
   congr 3
   rw [←hinv]
   have:(x==y)=false:=by
    rw [hxy]
    revert g3
    cases h5:(x.kind==y.kind)<;>cases h6:(x.name==y.name)<;>cases h7:decide (x.nodes=y.nodes)<;>simp [bne,h5,h6,h7]
   simp only [List.cons_beq_cons,this,Bool.false_and]
  ·have:(x==y)=true:=by
    rw [hxy]
    revert g3
    cases h5:(x.kind==y.kind)<;>cases h6:(x.name==y.name)<;>cases h7:decide (x.nodes=y.nodes)<;>simp [bne,h5,h6,h7]
   simp only [List.cons_beq_cons,this,Bool.true_and] at hinv
   try simp (maxSteps:=2000000) only [go_sem]
   repeat with_reducible refine zAb ?_
   refine ⟨i+1,by omega,⟨by omega,hinv⟩,?_⟩
   simp (maxSteps:=2000000) only [go_sem,zAn,zAw,zAJ,zAo]
   all_goals (repeat' (first|exact trivial|exact zAy (by omega)|exact zAu rfl|exact zAN rfl|exact zAA|exact le_refl _|refine And.intro ?_ ?_))
 ·have hil:i=a.length:=by simp at h2;omega
  try simp (maxSteps:=2000000) only [go_sem]
  repeat with_reducible refine zAb ?_
  refine zAj rfl trivial (.inl ?_)
  congr 3
  rw [←hinv,hil,List.drop_length,hl,List.drop_length]
  rfl
end Go.Hx
end

section
set_option maxRecDepth 100000
set_option linter.unusedSimpArgs false
set_option maxHeartbeats 4000000
namespace Go.Hx
open Go.Proofs
variable [Glob]
attribute [local go_sem] zAh zAm zAk zAg ndV zAr zAp zB6 entV zBC zBD
end Go.Hx
end

section
/-
 The abstract code of functions of the program, printed by gen.py; each stands for the given one. No condition.
-/
namespace Go.Hx
open Go.Proofs
variable [Glob]
abbrev zC8:Nat:=100
abbrev zQR:HCode:=oN [oV 1 (.boxF (.t 0)),
  oV 2 (.mv (.c (.one (.nl 3)))),
  oV 3 (.mv (.c (iv 0)))]
abbrev zQS:HCode:=oR [oV 13 (.ldR (.t 1) 1 true),
  oC 14 zC6 [(.t 13,.v)],
  oV 4 (.mv (.t 14))] [13,14]
abbrev zQT:HCode:=oR [oV 15 (.mv (.t 4)),
  oV 16 (.ints .neq (.t 15) (.c (iv 0)))] [15]
abbrev zQU:HCode:=oR [oV 17 (.mv (.t 4)),
  oV 2 (.mv (.c (.one (.nl 3)))),
  oV 3 (.mv (.t 17))] [17]
abbrev zQV:HCode:=oN [⟨none,.mmk 18⟩,
  oV 5 (.mv (.t 18))]
abbrev zQW:HCode:=oR [oV 19 (.fldR (.t 1) 0 1),
  oV 20 (.ldR (.t 19) 1 false),
  oV 21 (.len false (.t 20)),
  oV 22 (.mv (.c (iv 0)))] [19]
abbrev zQX:HCode:=oN [oV 23 (.ints .lss (.t 22) (.t 21))]
abbrev zQY:HCode:=oR [oV 24 (.mv (.t 22)),
  oV 25 (.idxA 5 (.t 20) (.t 22)),
  oV 26 (.ldR (.t 25) 5 true),
  ⟨none,.alloc 7 0 92 [.v (.int .i64 0),.v (mkS []),.v (mkS []),.nl 1,.nl 2]⟩,
  oV 6 (.mv (.t 24)),
  ⟨none,.sto (.t 7) 0 92 0 5 (.t 26)⟩] [24,25,26]
abbrev zQZ:HCode:=oQ [oD 0 false (oV 27 (.mv (.t 5))),
  oD 1 false (oV 28 (.fldP (.t 7) 1)),
  oD 2 false (oV 29 (.ldB (.t 28) 0 92 1 1 false)),
  oD 3 false (oV 30 (.bld [.v (.int .i64 0),.v (mkS [])] [(0,1,.c (iv 1)),(1,1,.t 29)])),
  oD 4 false (oV 31 (.mv (.t 5))),
  oD 5 false (oV 32 (.fldP (.t 7) 1)),
  oD 6 false (oV 33 (.ldB (.t 32) 0 92 1 1 false)),
  oD 7 false (oV 34 (.bld [.v (.int .i64 0),.v (mkS [])] [(0,1,.c (iv 1)),(1,1,.t 33)])),
  oD 8 false ⟨none,.mpv 35 (.t 31) 18 3 (.t 34) zAD 1⟩,
  oD 9 false (oV 36 (.mv (.t 6))),
  oD 10 false (oV 37 (.bslF 1 [.t 36])),
  oD 11 false ⟨none,.vap 38 zAD 1 35 (.t 37)⟩,
  oD 12 false ⟨none,.mps (.t 27) 18 3 (.t 30) (.t 38)⟩] [27,28,29,30,31,32,33,34,35,36,37,38]
abbrev zQ0:HCode:=oR [oV 39 (.fldP (.t 7) 2),
  oV 40 (.ldB (.t 39) 0 92 2 1 false),
  oV 41 (.strs .neq (.t 40) (.c (sv [])))] [39,40]
abbrev zOR:HCode:=oQ [oD 0 false (oV 42 (.mv (.t 5))),
  oD 1 false (oV 43 (.fldP (.t 7) 2)),
  oD 2 false (oV 44 (.ldB (.t 43) 0 92 2 1 false)),
  oD 3 false (oV 45 (.bld [.v (.int .i64 0),.v (mkS [])] [(0,1,.c (iv 2)),(1,1,.t 44)])),
  oD 4 false (oV 46 (.mv (.t 5))),
  oD 5 false (oV 47 (.fldP (.t 7) 2)),
  oD 6 false (oV 48 (.ldB (.t 47) 0 92 2 1 false)),
  oD 7 false (oV 49 (.bld [.v (.int .i64 0),.v (mkS [])] [(0,1,.c (iv 2)),(1,1,.t 48)])),
  oD 8 false ⟨none,.mpv 50 (.t 46) 18 3 (.t 49) zAD 1⟩,
  oD 9 false (oV 51 (.mv (.t 6))),
  oD 10 false (oV 52 (.bslF 1 [.t 51])),
  oD 11 false ⟨none,.vap 53 zAD 1 50 (.t 52)⟩,
  oD 12 false ⟨none,.mps (.t 42) 18 3 (.t 45) (.t 53)⟩] [42,43,44,45,46,47,48,49,50,51,52,53]
abbrev zOS:HCode:=oR [oV 54 (.fldP (.t 7) 3),
  oV 55 (.ldB (.t 54) 0 92 3 1 false),
  oV 56 (.len false (.t 55)),
  oV 57 (.mv (.c (iv 0)))] [54]
abbrev zOT:HCode:=oN [oV 58 (.ints .lss (.t 57) (.t 56))]
abbrev zOU:HCode:=oR [oV 59 (.idxA 1 (.t 55) (.t 57)),
  oV 60 (.ldR (.t 59) 1 false),
  oV 9 (.mv (.t 60))] [59,60]
abbrev zOV:HCode:=oR [oV 61 (.mv (.t 5)),
  oV 62 (.mv (.t 9)),
  oV 63 (.bld [.v (.int .i64 0),.v (mkS [])] [(0,1,.c (iv 3)),(1,1,.t 62)]),
  oV 64 (.mv (.t 5)),
  oV 65 (.mv (.t 9)),
  oV 66 (.bld [.v (.int .i64 0),.v (mkS [])] [(0,1,.c (iv 3)),(1,1,.t 65)]),
  ⟨none,.mpv 67 (.t 64) 18 3 (.t 66) zAD 1⟩,
  oV 68 (.mv (.t 6)),
  oV 69 (.bslF 1 [.t 68]),
  ⟨none,.vap 70 zAD 1 67 (.t 69)⟩,
  ⟨none,.mps (.t 61) 18 3 (.t 63) (.t 70)⟩] [61,62,63,64,65,66,67,68,69,70]
abbrev zOW:HCode:=oR [oV 71 (.ints .add (.t 57) (.c (iv 1))),
  oV 57 (.mv (.t 71))] [71]
abbrev zOX:HCode:=oR [oV 72 (.ints .add (.t 22) (.c (iv 1))),
  oV 22 (.mv (.t 72))] [72]
abbrev zOY:HCode:=oN [⟨none,.vnl 10 zAE 3⟩]
abbrev zOZ:HCode:=.regG [.vfm 18] [oV 73 (.mv (.t 5)),
  ⟨none,.mrg 74 (.t 73) 18⟩] [.forget [73]]
abbrev zO0:HCode:=oR [⟨none,.mnx 75 74 18⟩,
  oV 76 (.ext 75 0)] [75]
abbrev zO1:HCode:=oR [⟨none,.men 77 74 18⟩,
  oV 78 (.ext 77 0),
  oV 79 (.ext 77 1),
  ⟨none,.alloc 11 1 97 [.v (.int .i64 0),.v (mkS [])]⟩,
  ⟨none,.sto (.t 11) 1 97 0 2 (.t 78)⟩,
  oV 12 (.mv (.t 79))] [77,78,79]
abbrev zO2:HCode:=oR [⟨none,.vmv 80 10⟩,
  oV 81 (.fldP (.t 11) 0),
  oV 82 (.ldB (.t 81) 1 97 0 1 false),
  oV 83 (.fldP (.t 11) 1),
  oV 84 (.ldB (.t 83) 1 97 1 1 false),
  oV 85 (.mv (.t 12)),
  oV 86 (.bld [.v (.int .i64 0),.v (mkS []),.nl 1] [(0,1,.t 82),(1,1,.t 84),(2,1,.t 85)]),
  oV 87 (.bslF 3 [.t 86]),
  ⟨none,.vap 88 zAE 3 80 (.t 87)⟩,
  ⟨none,.vmv 10 88⟩] [80,81,82,83,84,85,86,87,88]
abbrev zO3:HCode:=.regG [.pin 10 0 0 []] [oV 89 (.mv (.t 10)),
  ⟨none,.cals (some 90) zC8 10 (.t 89) [(.f zBl,.v)]⟩] [.forget [89,90]]
abbrev zO4:HCode:=.regG [.vfr 10 0 0] [oV 91 (.mv (.t 10)),
  oV 2 (.mv (.t 91)),
  oV 3 (.mv (.c (iv 0)))] [.forget [91]]
abbrev zYG:HCode:=(.seq zQR (.seq (.seq zQS (.seq zQT (.cond (.t 16) (.seq zQU .ret) .skip))) (.seq zQV (.seq (.seq zQW (.block 0 (.loop (.seq zQX (.seq (.cond (.t 23) .skip (.exit 0)) (.seq (.block 1 (.seq zQY (.seq zQZ (.seq (.seq zQ0 (.cond (.t 41) zOR .skip)) (.seq zOS (.block 2 (.loop (.seq zOT (.seq (.cond (.t 58) .skip (.exit 2)) (.seq (.block 3 (.seq zOU zOV)) zOW)))))))))) zOX)))))) (.seq zOY (.seq (.seq zOZ (.block 4 (.loop (.seq zO0 (.seq (.cond (.t 76) .skip (.exit 4)) (.block 5 (.seq zO1 zO2))))))) (.seq zO3 (.seq zO4 .ret))))))))
abbrev zJZ:Env:={N:=92,Γ:=[(92,5),(97,2)],L:=99,nfix:=0}
abbrev index_Build_R:List RSrc:=[.tmp 2,.tmp 3]
theorem zQ1:zBV Tryz.prog zDM zYG zJZ index_Build_R:=by kernel_rfl
end Go.Hx
end

section
set_option maxRecDepth 100000
set_option linter.unusedSimpArgs false
namespace Go.Hx
open Go.Proofs
variable [Glob]
attribute [local go_sem] zAh zAm zAk zAg ndV zAr
attribute [local go_sem] reduceCtorEq Nat.reduceAdd Nat.reduceEqDiff reduceIte Nat.reduceLeDiff Nat.reduceLT Nat.reduceSub
theorem zO5 (a b:List Bys):Contract Tryz.prog zD4 [.val (.one (.sl 1 (zVD a))),.val (.one (.sl 1 (zVD b)))] {res:=.val (bv (decide (a=b)))}:=by
 refine mkA zL5 (base:=0) (fo rfl) (fun hfit=>?_)
 unfold F0 zGJ
 simp (maxSteps:=2000000) only [zAM,List.set_cons_succ,List.set_cons_zero,List.map_cons,List.map_nil,zAL,zAa,ioOf,List.length_cons,List.length_nil,Nat.reduceAdd,Nat.reduceSub,List.replicate,List.cons_append,List.nil_append]
 try simp (maxSteps:=2000000) only [go_sem]
 repeat with_reducible refine zAb ?_
 have hm:=zDl (k:=1) hfit.1
 rw [zAm] at hm
 refine zAd (by rfl) trivial (fun h=>?_) (fun h=>?_)
 ·try simp (maxSteps:=2000000) only [go_sem]
  repeat with_reducible refine zAb ?_
  refine zAj rfl trivial (.inl ?_)
  congr 3
  simp [zAm] at h
  exact decide_eq_false (fun e=>h (by subst e;rfl))
 have hl:a.length=b.length:=by simp [zAm] at h;omega
 try simp (maxSteps:=2000000) only [go_sem]
 repeat with_reducible refine zAb ?_
 refine zAx (fun i:Nat=>[(5,.pv (iv i)),(14,.un),(25,.un)]) (fun i=>a.length-i) (fun i=>i≤a.length∧a.take i=b.take i) 0 ?_ ⟨Nat.zero_le _,rfl⟩ ?_
 ·simp (maxSteps:=2000000) only [go_sem,zAn,zAw,zAJ,zAo]
 intro i ⟨hi,heq⟩
 try simp (maxSteps:=2000000) only [go_sem,zAm]
 repeat with_reducible refine zAb ?_
 refine zAd (by rfl) trivial (fun h2=>?_) (fun h2=>?_)
 ·have hlt:i < a.length:=by simpa using h2
  have hltb:i < b.length:=by omega
  try simp (maxSteps:=2000000) only [go_sem,zEN _ _ hlt,zEN _ _ hltb,zAm]
  repeat with_reducible refine zAb ?_
  refine zAd (by rfl) trivial (fun h3=>?_) (fun h3=>?_)
  ·try simp (maxSteps:=2000000) only [go_sem]
   repeat with_reducible refine zAb ?_
   refine zAj rfl trivial (.inl ?_)
   congr 3
   simp only [Bool.not_eq_true',beq_eq_false_iff_ne] at h3
   exact (decide_eq_false (zKJ [] h3))
  ·try simp (maxSteps:=2000000) only [go_sem]
   repeat with_reducible refine zAb ?_
   refine ⟨i+1,by omega,⟨hlt,zEP [] heq hlt hltb ?_⟩,?_⟩
   ·simpa only [Bool.not_eq_false',beq_iff_eq] using h3
   ·simp (maxSteps:=2000000) only [go_sem,zAn,zAw,zAJ,zAo]
    exact zAy (by omega)
 ·try simp (maxSteps:=2000000) only [go_sem]
  repeat with_reducible refine zAb ?_
  refine zAj rfl trivial (.inl ?_)
  congr 3
  have hi2:i=a.length:=by simp at h2;omega
  subst hi2
  exact decide_eq_true (zHJ hl heq)
theorem zO6 (x y:Nd):Contract Tryz.prog zD3 [.val (.agg (ndV x)),.val (.agg (ndV y))] {res:=.val (bv (decide (x=y)))}:=by
 unfold ndV
 refine mkA zMf (base:=0) (fo rfl) (fun hfit=>?_)
 unfold F0 zGK
 simp (maxSteps:=2000000) only [zAM,List.set_cons_succ,List.set_cons_zero,List.map_cons,List.map_nil,zAL,zAa,ioOf,List.length_cons,List.length_nil,Nat.reduceAdd,Nat.reduceSub,List.replicate,List.cons_append,List.nil_append]
 try simp (maxSteps:=2000000) only [go_sem]
 repeat with_reducible refine zAb ?_
 apply zAB (h2:=fun _=>zO5 _ _)
 ·(simp (maxSteps:=2000000) only [go_sem];rfl)
 ·intro h;repeat' (first|exact trivial|exact h|refine And.intro ?_ ?_)
 try simp (maxSteps:=2000000) only [go_sem,zAk]
 repeat with_reducible refine zAb ?_
 have hm:=zDl (k:=2) (hfit.1.2.2.2.2.1)
 rw [zAk] at hm
 refine zAd (by rfl) trivial (fun h=>?_) (fun h=>?_)
 ·try simp (maxSteps:=2000000) only [go_sem]
  repeat with_reducible refine zAb ?_
  refine zAj rfl trivial (.inl ?_)
  congr 3
  refine decide_eq_false (fun e=>?_)
  subst e
  simp at h
 have hh:x.up=y.up∧x.tag=y.tag∧x.id=y.id∧x.cls=y.cls∧x.att.length=y.att.length:=by
  simp at h
  grind
 obtain ⟨e1,e2,e3,e4,hl⟩:=hh
 try simp (maxSteps:=2000000) only [go_sem]
 repeat with_reducible refine zAb ?_
 refine zAx (fun i:Nat=>[(5,.pv (iv i)),(46,.un),(59,.un)]) (fun i=>x.att.length-i) (fun i=>i≤x.att.length∧x.att.take i=y.att.take i) 0 ?_ ⟨Nat.zero_le _,rfl⟩ ?_
 ·simp (maxSteps:=2000000) only [go_sem,zAn,zAw,zAJ,zAo]
 intro i ⟨hi,heq⟩
 try simp (maxSteps:=2000000) only [go_sem,zAk]
 repeat with_reducible refine zAb ?_
 refine zAd (by rfl) trivial (fun h2=>?_) (fun h2=>?_)
 ·have hlt:i < x.att.length:=by simpa using h2
  have hltb:i < y.att.length:=by omega
  try simp (maxSteps:=2000000) only [go_sem,zEO _ _ hlt,zEO _ _ hltb,zAk,zAr]
  repeat with_reducible refine zAb ?_
  refine zAd (by rfl) trivial (fun h3=>?_) (fun h3=>?_)
  ·try simp (maxSteps:=2000000) only [go_sem]
   repeat with_reducible refine zAb ?_
   refine zAj rfl trivial (.inl ?_)
   congr 3
   refine decide_eq_false (fun e=>?_)
   subst e
   simp at h3
  ·try simp (maxSteps:=2000000) only [go_sem]
   repeat with_reducible refine zAb ?_
   refine ⟨i+1,by omega,⟨hlt,zEP default heq hlt hltb ?_⟩,?_⟩
   ·simp at h3
    exact Prod.ext h3.1 h3.2
   ·simp (maxSteps:=2000000) only [go_sem,zAn,zAw,zAJ,zAo]
    exact zAy (by omega)
 ·try simp (maxSteps:=2000000) only [go_sem]
  repeat with_reducible refine zAb ?_
  refine zAj rfl trivial (.inl ?_)
  congr 3
  have hi2:i=x.att.length:=by simp at h2;omega
  subst hi2
  have e5:=zHJ hl heq
  refine decide_eq_true ?_
  cases x;cases y
  simp_all
theorem zQ3 (a b:List Nd):Contract Tryz.prog zEr [.val (zBE a),.val (zBE b)] {res:=.val (bv (decide (a=b)))}:=by
 unfold zBE
 refine mkA zOq (base:=0) (fo rfl) (fun hfit=>?_)
 unfold F0 zIb
 simp (maxSteps:=2000000) only [zAM,List.set_cons_succ,List.set_cons_zero,List.map_cons,List.map_nil,zAL,zAa,ioOf,List.length_cons,List.length_nil,Nat.reduceAdd,Nat.reduceSub,List.replicate,List.cons_append,List.nil_append]
 try simp (maxSteps:=2000000) only [go_sem]
 repeat with_reducible refine zAb ?_
 have hm:=zDl (k:=5) (hfit.1.1)
 rw [zAh] at hm
 refine zAd (by rfl) trivial (fun h=>?_) (fun h=>?_)
 ·try simp (maxSteps:=2000000) only [go_sem]
  repeat with_reducible refine zAb ?_
  refine zAj rfl trivial (.inl ?_)
  congr 3
  simp [zAh] at h
  exact decide_eq_false (fun e=>h (by rw [e]))
 have hl:a.length=b.length:=by simp [zAh] at h;omega
 try simp (maxSteps:=2000000) only [go_sem]
 repeat with_reducible refine zAb ?_
 refine zAx (fun i:Nat=>[(5,.pv (iv i)),(17,.un),(31,.un)]) (fun i=>a.length-i) (fun i=>i≤a.length∧a.take i=b.take i) 0 ?_ ⟨Nat.zero_le _,rfl⟩ ?_
 ·simp (maxSteps:=2000000) only [go_sem,zAn,zAw,zAJ,zAo]
 intro i ⟨hi,heq⟩
 try simp (maxSteps:=2000000) only [go_sem,zAh]
 repeat with_reducible refine zAb ?_
 refine zAd (by rfl) trivial (fun h2=>?_) (fun h2=>?_)
 ·have hlt:i < a.length:=by simpa using h2
  have hltb:i < b.length:=by omega
  try simp (maxSteps:=2000000) only [go_sem,zA4 _ _ hlt,zA4 _ _ hltb,zAh,ndV]
  repeat with_reducible refine zAb ?_
  refine zAq (by repeat' constructor) (zO6 _ _) ?_
  try simp (maxSteps:=2000000) only [go_sem]
  repeat with_reducible refine zAb ?_
  refine zAd (by rfl) trivial (fun h3=>?_) (fun h3=>?_)
  ·try simp (maxSteps:=2000000) only [go_sem]
   repeat with_reducible refine zAb ?_
   refine zAj rfl trivial (.inl ?_)
   congr 3
   simp only [Bool.not_eq_true',decide_eq_false_iff_not] at h3
   exact decide_eq_false (zKJ default h3)
  ·try simp (maxSteps:=2000000) only [go_sem]
   repeat with_reducible refine zAb ?_
   refine ⟨i+1,by omega,⟨hlt,zEP default heq hlt hltb ?_⟩,?_⟩
   ·simpa only [Bool.not_eq_false',decide_eq_true_eq] using h3
   ·simp (maxSteps:=2000000) only [go_sem,zAn,zAw,zAJ,zAo]
    exact zAy (by omega)
 ·try simp (maxSteps:=2000000) only [go_sem]
  repeat with_reducible refine zAb ?_
  refine zAj rfl trivial (.inl ?_)
  congr 3
  have hi2:i=a.length:=by simp at h2;omega
  subst hi2
  exact decide_eq_true (zHJ hl heq)
end Go.Hx
end

section
set_option maxRecDepth 100000
set_option linter.unusedSimpArgs false
namespace Go.Hx
open Go.Proofs
variable [Glob]
attribute [local go_sem] zAh zAm zAk zAg ndV zAr
attribute [local go_sem] reduceCtorEq Nat.reduceAdd Nat.reduceEqDiff reduceIte Nat.reduceLeDiff Nat.reduceLT Nat.reduceSub
theorem zKM {d:List Nd} {i:Nat}:zCm d (i+1)=(zCm d i&&zS7 d i):=zCP
theorem zCR (d:List Nd):Contract Tryz.prog zBy [.val (zBE d)] {res:=.val (iv (zAi d))}:=by
 unfold zBE
 refine mkA zN5 (base:=0) (fo rfl) (fun hfit=>?_)
 unfold F0 zH9
 simp (maxSteps:=2000000) only [zAM,List.set_cons_succ,List.set_cons_zero,List.map_cons,List.map_nil,zAL,zAa,ioOf,List.length_cons,List.length_nil,Nat.reduceAdd,Nat.reduceSub,List.replicate,List.cons_append,List.nil_append]
 try simp (maxSteps:=2000000) only [go_sem]
 repeat with_reducible refine zAb ?_
 try simp (maxSteps:=2000000) only [go_sem,zAh]
 repeat with_reducible refine zAb ?_
 refine zAq (by repeat' constructor) (zDW _ _ _) ?_
 try simp (maxSteps:=2000000) only [go_sem]
 repeat with_reducible refine zAb ?_
 refine zAd (by rfl) trivial (fun h=>?_) (fun h=>?_)
 ·try simp (maxSteps:=2000000) only [go_sem]
  repeat with_reducible refine zAb ?_
  refine zAj rfl trivial (.inl ?_)
  congr 3
  have h2:¬ (1≤d.length∧d.length≤64):=by simp at h;omega
  simp [zAi,h2]
 have hr:1≤d.length∧d.length≤64:=by simp at h;omega
 obtain ⟨hr1,hr2⟩:=hr
 try simp (maxSteps:=2000000) only [go_sem]
 repeat with_reducible refine zAb ?_
 refine zAx (fun i:Nat=>[(3,.pv (iv i)),(4,.un),(5,.un),(15,.un),(37,.un),(47,.un),(63,.un)]) (fun i:Nat=>d.length-i) (fun i:Nat=>i≤d.length∧zCm d i=true) (0) ?_ ⟨Nat.zero_le _,rfl⟩ ?_
 focus (simp (maxSteps:=2000000) only [go_sem,zAn,zAw,zAJ,zAo];all_goals (repeat' (first|exact trivial|exact zAy (by omega)|exact zAu rfl|exact zAN rfl|exact zAA|exact le_refl _|refine And.intro ?_ ?_)))
 intro i ⟨hi,hok⟩
 try simp (maxSteps:=2000000) only [go_sem,zAh]
 repeat with_reducible refine zAb ?_
 refine zAd (by rfl) trivial (fun h2=>?_) (fun h2=>?_)
 ·have hlt:i < d.length:=by simpa using h2
  try simp (maxSteps:=2000000) only [go_sem,zAh,zA4 _ _ hlt]
  repeat with_reducible refine zAb ?_
  refine zAq (by repeat' constructor) (zIg _) ?_
  try simp (maxSteps:=2000000) only [go_sem,zAh,zA4 _ _ hlt,ndV]
  repeat with_reducible refine zAb ?_
  refine zAd (by rfl) trivial (fun h3=>?_) (fun h3=>?_)
  ·try simp (maxSteps:=2000000) only [go_sem]
   repeat with_reducible refine zAb ?_
   refine zAj rfl trivial (.inl ?_)
   congr 3
   have:zCm d d.length=false:=by
    cases hn:zCm d d.length with
    |false=>rfl
    |true=>
     exfalso
     have h4:=zA5 hn hlt
     simp only [zS7,yAU,zAS,Bool.and_eq_true] at h4
     rw [h4.1] at h3
     by_cases h5:i=0
     ·subst h5;simp at h3 h4;omega
     ·simp at h3;omega
   simp [zAi,hr1,hr2,this]
  have hn:zA0 (d.getD i default)=true:=by
   cases hn:zA0 (d.getD i default) with
   |true=>rfl
   |false=>rw [hn] at h3;simp at h3
  rw [hn] at h3
  have h4:i=0→zAS d i=-1:=by
   intro h5;subst h5;simpa [zAS] using h3
  have hup:=zBB hok
  try simp (maxSteps:=2000000) only [go_sem]
  repeat with_reducible refine zAb ?_
  refine zAx (fun x:Int×Bool=>[(4,.pv (bv x.2)),(5,.pv (iv x.1)),(47,.un)]) (fun x:Int×Bool=>(x.1+1).toNat) (fun x:Int×Bool=>-1≤x.1∧x.1 < i∧(x.2=true→yAU d i=true)∧(x.2=false→yAU d i=(zBr d (x.1+1).toNat x.1).contains (zAS d i))) (((i:Int)-1,(i:Int)==0)) ?_ ⟨by show -1≤(i:Int)-1;omega,by show (i:Int)-1 < i;omega,fun h=>by simp at h;subst h;simp [yAU,h4],fun h=>by simp at h;simp [yAU,h]⟩ ?_
  focus (simp (maxSteps:=2000000) only [go_sem,zAn,zAw,zAJ,zAo];all_goals (repeat' (first|exact trivial|exact zAy (by omega)|exact zAu rfl|exact zAN rfl|exact zAA|exact le_refl _|refine And.intro ?_ ?_)))
  intro ⟨k,fine⟩ ⟨hk1,hk2,hk3,hk4⟩
  simp only at hk1 hk2 hk3 hk4
  try simp (maxSteps:=2000000) only [go_sem]
  repeat with_reducible refine zAb ?_
  refine zAd (by rfl) trivial (fun h5=>?_) (fun h5=>?_)
  ·have hk5:0≤k∧fine=false:=by simp at h5;exact h5
   obtain ⟨hk5,rfl⟩:=hk5
   have hkn:k.toNat < d.length:=by omega
   try simp (maxSteps:=2000000) only [go_sem,zA4 _ _ hlt,zA4 _ _ hkn]
   repeat with_reducible refine zAb ?_
   have h6:=hup k.toNat (by omega)
   refine ⟨(zAS d k.toNat,k==zAS d i),?_,⟨h6.1,?_,?_,?_⟩,?_⟩
   ·simp only;omega
   ·simp only;omega
   ·simp only
    intro h7
    have h8:k=zAS d i:=by simpa using h7
    rw [hk4 rfl,show (k+1).toNat=k.toNat+1 by omega,zBr,if_neg (by omega),h8]
    simp
   ·simp only
    intro h7
    have h8:¬ k=zAS d i:=by simpa using h7
    rw [hk4 rfl,show (k+1).toNat=k.toNat+1 by omega,zBr,if_neg (by omega),List.contains_cons]
    rw [zFy k.toNat (zAS d k.toNat+1).toNat _ (fun j hj=>(hup j (by omega)).2) (by omega) (by omega)]
    simp [Ne.symm h8]
   ·simp (maxSteps:=2000000) only [go_sem,zAn,zAw,zAJ,zAo]
    all_goals (repeat' (first|exact trivial|exact zAy (by omega)|exact zAu rfl|exact zAN rfl|exact zAA|exact le_refl _|refine And.intro ?_ ?_))
  ·try simp (maxSteps:=2000000) only [go_sem]
   repeat with_reducible refine zAb ?_
   refine zAd (by rfl) trivial (fun h6=>?_) (fun h6=>?_)
   ·try simp (maxSteps:=2000000) only [go_sem]
    repeat with_reducible refine zAb ?_
    refine zAj rfl trivial (.inl ?_)
    congr 3
    have hf:fine=false:=by simpa using h6
    subst hf
    have hk:k=-1:=by simp at h5;omega
    subst hk
    have:zCm d d.length=false:=by
     cases hn:zCm d d.length with
     |false=>rfl
     |true=>
      exfalso
      have h7:=zA5 hn hlt
      simp only [zS7,Bool.and_eq_true] at h7
      rw [hk4 rfl] at h7
      simp [zBr] at h7
    simp [zAi,hr1,hr2,this]
   ·have hf:fine=true:=by simpa using h6
    subst hf
    try simp (maxSteps:=2000000) only [go_sem]
    repeat with_reducible refine zAb ?_
    refine ⟨i+1,by omega,⟨hlt,?_⟩,?_⟩
    ·rw [zKM,hok,zS7,hn,hk3 rfl];rfl
    ·simp (maxSteps:=2000000) only [go_sem,zAn,zAw,zAJ,zAo]
     all_goals (repeat' (first|exact trivial|exact zAy (by omega)|exact zAu rfl|exact zAN rfl|exact zAA|exact le_refl _|refine And.intro ?_ ?_))
 ·try simp (maxSteps:=2000000) only [go_sem]
  repeat with_reducible refine zAb ?_
  refine zAj rfl trivial (.inl ?_)
  congr 3
  have:i=d.length:=by simp at h2;omega
  subst this
  simp [zAi,hr1,hr2,hok]
end Go.Hx
end

section
set_option maxRecDepth 100000
set_option linter.unusedSimpArgs false
namespace Go.Hx
open Go.Proofs
variable [Glob]
attribute [local go_sem] zAh zAm zAk zAg ndV zAr
attribute [local go_sem] reduceCtorEq Nat.reduceAdd Nat.reduceEqDiff reduceIte Nat.reduceLeDiff Nat.reduceLT Nat.reduceSub
def zBq (d:List Nd) (k:Int):Int:=if zAi d=0 then (if 0≤k∧k≤(d.length:Int)-1 then 0 else 5) else zAi d
theorem zO7 (d:List Nd) (k:Int):Contract Tryz.prog zEQ [.val (zBE d),.val (iv k)] {res:=.val (iv (zBq d k))}:=by
 unfold zBE
 refine mkA zWf (base:=0) (fo rfl) (fun hfit=>?_)
 unfold F0 zN6
 simp (maxSteps:=2000000) only [zAM,List.set_cons_succ,List.set_cons_zero,List.map_cons,List.map_nil,zAL,zAa,ioOf,List.length_cons,List.length_nil,Nat.reduceAdd,Nat.reduceSub,List.replicate,List.cons_append,List.nil_append]
 try simp (maxSteps:=2000000) only [go_sem]
 repeat with_reducible refine zAb ?_
 have hm:=zDl (k:=5) (hfit.1.1)
 rw [zAh] at hm
 refine zAq (by repeat' constructor) (zCR _) ?_
 try simp (maxSteps:=2000000) only [go_sem]
 repeat with_reducible refine zAb ?_
 refine zAd (by rfl) trivial (fun h=>?_) (fun h=>?_)
 ·try simp (maxSteps:=2000000) only [go_sem]
  repeat with_reducible refine zAb ?_
  refine zAj rfl trivial (.inl ?_)
  congr 3
  have h2:¬ zAi d=0:=by simpa using h
  simp [zBq,h2]
 have h2:zAi d=0:=by simpa using h
 try simp (maxSteps:=2000000) only [go_sem]
 repeat with_reducible refine zAb ?_
 refine zAq (by repeat' constructor) (zDW _ _ _) ?_
 try simp (maxSteps:=2000000) only [go_sem]
 repeat with_reducible refine zAb ?_
 refine zAd (by rfl) trivial (fun h3=>?_) (fun h3=>?_)
 ·try simp (maxSteps:=2000000) only [go_sem]
  repeat with_reducible refine zAb ?_
  refine zAj rfl trivial (.inl ?_)
  congr 3
  have h4:¬ (0≤k∧k≤(d.length:Int)-1):=by simp at h3;omega
  simp only [zBq,h2,h4,if_true,if_false]
 ·try simp (maxSteps:=2000000) only [go_sem]
  repeat with_reducible refine zAb ?_
  refine zAj rfl trivial (.inl ?_)
  congr 3
  have h4:(0≤k∧k≤(d.length:Int)-1):=by simp at h3;omega
  simp only [zBq,h2,h4,if_true,and_self]
def zAX (d:List Nd) (n:Int) (k:Nat):List Int:=((List.range k).filter fun i=>decide (zAS d i=n)).map Int.ofNat
def zBf (d:List Nd) (n:Int):List Int:=zAX d n d.length
theorem zCt {d:List Nd} {n:Int} {k:Nat}:zAX d n (k+1)=if zAS d k=n then zAX d n k++[(k:Int)] else zAX d n k:=by
 unfold zAX
 rw [List.range_succ,List.filter_append,List.map_append]
 by_cases h:zAS d k=n<;>simp [List.filter,h]
theorem zFM {d:List Nd} {n:Int} (k:Nat):(zAX d n k).length≤k:=by
 unfold zAX
 rw [List.length_map]
 exact Nat.le_trans (List.length_filter_le _ _) (by simp)
theorem zEX (d:List Nd) (n:Int) (hd:d.length≤64):Contract Tryz.prog zCA [.val (zBE d),.val (iv n)] {res:=.own zAD 1 (zBi (zBf d n))}:=by
 unfold zBE
 refine mkA zTw (base:=0) (fo rfl) (fun hfit=>?_)
 unfold F0 zLl
 simp (maxSteps:=2000000) only [zAM,List.set_cons_succ,List.set_cons_zero,List.map_cons,List.map_nil,zAL,zAa,ioOf,List.length_cons,List.length_nil,Nat.reduceAdd,Nat.reduceSub,List.replicate,List.cons_append,List.nil_append]
 try simp (maxSteps:=2000000) only [go_sem]
 repeat with_reducible refine zAb ?_
 have hm:=zDl (k:=5) (hfit.1.1)
 rw [zAh] at hm
 refine zAx (fun i:Nat=>[(5,.own zAD 1 (zBi (zAX d n i))),(6,.pv (iv i)),(11,.un),(21,.un)]) (fun i:Nat=>d.length-i) (fun i:Nat=>i≤d.length) (0) ?_ (Nat.zero_le _) ?_
 focus (simp (maxSteps:=2000000) only [go_sem,zAn,zAw,zAJ,zAo];all_goals (repeat' (first|exact trivial|exact zAy (by omega)|exact zAu rfl|exact zAN rfl|exact zAA|exact le_refl _|refine And.intro ?_ ?_)))
 intro i hi
 try simp (maxSteps:=2000000) only [go_sem]
 repeat with_reducible refine zAb ?_
 have hu:=zFM (d:=d) (n:=n) i
 refine zAd (by rfl) trivial (fun h=>?_) (fun h=>?_)
 ·have hlt:i < d.length:=by simpa using h
  try simp (maxSteps:=2000000) only [go_sem,zA4 _ _ hlt]
  repeat with_reducible refine zAb ?_
  refine zAd (by rfl) trivial (fun h2=>?_) (fun h2=>?_)
  ·try simp (maxSteps:=2000000) only [go_sem]
   repeat with_reducible refine zAb ?_
   refine ⟨i+1,by omega,hlt,?_⟩
   simp (maxSteps:=2000000) only [go_sem,zAn,zAw,zAJ,zAo]
   all_goals (repeat' (first|exact trivial|exact zAy (by omega)|exact zAu rfl|exact zAN rfl|exact zAA|exact le_refl _|refine And.intro ?_ ?_))
   refine zFx ?_
   have h3:zAS d i=n:=by simpa [zAS] using h2
   simp [zCt,h3,zBi]
  ·try simp (maxSteps:=2000000) only [go_sem]
   repeat with_reducible refine zAb ?_
   refine ⟨i+1,by omega,hlt,?_⟩
   simp (maxSteps:=2000000) only [go_sem,zAn,zAw,zAJ,zAo]
   all_goals (repeat' (first|exact trivial|exact zAy (by omega)|exact zAu rfl|exact zAN rfl|exact zAA|exact le_refl _|refine And.intro ?_ ?_))
   refine zFx ?_
   have h3:¬ zAS d i=n:=by simpa [zAS] using h2
   simp [zCt,h3,zBi]
 ·try simp (maxSteps:=2000000) only [go_sem]
  repeat with_reducible refine zAb ?_
  have:i=d.length:=by simp at h;omega
  subst this
  exact zFU rfl
end Go.Hx
end

section
set_option maxRecDepth 100000
set_option linter.unusedSimpArgs false
namespace Go.Hx
open Go.Proofs
variable [Glob]
attribute [local go_sem] reduceCtorEq Nat.reduceAdd Nat.reduceEqDiff reduceIte Nat.reduceLeDiff Nat.reduceLT Nat.reduceSub
inductive Tr where
 |mk (x:Nd) (k:List Tr)
instance:Inhabited Tr:=⟨.mk default []⟩
attribute [local go_sem] zAh zAm zAk zAg ndV zAr List.take_zero List.map_nil
def Tr.nd:Tr→Nd|.mk x _=>x
def Tr.kids:Tr→List Tr|.mk _ k=>k
mutual
def trV:Tr→List PV
 |.mk x k=>[bI x.up,bS x.tag,bS x.id,.sl 1 (zVD x.cls),.sl 2 (zVE x.att),.sl 6 (zO8 k)]
def zO8:List Tr→List (List PV)
 |[]=>[]
 |t::r=>trV t::zO8 r
end
theorem zMU:∀ l:List Tr,zO8 l=l.map trV
 |[]=>rfl
 |t::r=>by simp [zO8,zMU r]
theorem zO9 (t:Tr):(trV t).length=6:=by cases t;rfl
attribute [local go_sem] zO9
theorem zJ0 (t:Tr):(trV t).map PV.norm=trV t:=by cases t;rfl
attribute [local go_sem] zJ0
theorem zJ1:zO8 []=[]:=rfl
attribute [local go_sem] zJ1
theorem zEY (l:List Tr):(zO8 l).length=l.length:=by simp [zMU]
attribute [local go_sem] zEY
theorem zJ2 (l:List Tr) (i:Nat) (h:i < l.length):(zO8 l).getD i []=trV (l.getD i default):=by simp [zMU,h]
theorem zHM (l r:List Tr):zO8 (l++r)=zO8 l++zO8 r:=by simp [zMU]
def zBY (d:List Nd):Nat→Nat→Tr
 |0,n=>.mk (d.getD n default) []
 |f+1,n=>.mk (d.getD n default) ((zBf d n).map fun k=>zBY d f k.toNat)
theorem zKN {d:List Nd} (hd:zCm d d.length=true) {n:Nat} {i:Nat} (h:i < (zBf d n).length):∃ m:Nat,(zBf d n).getD i 0=m∧m < d.length∧n < m:=by
 have h1:(zBf d n).getD i 0∈zBf d n:=by simp [h]
 unfold zBf zAX at h1
 obtain ⟨m,h2,h3⟩:=List.mem_map.1 h1
 rw [List.mem_filter] at h2
 have h4:m < d.length:=by simpa using h2.1
 have h5:zAS d m=n:=by simpa using h2.2
 have:=(zBB hd m h4).2
 exact ⟨m,h3.symm,h4,by omega⟩
theorem zC9 {d:List Nd} (hd:zCm d d.length=true) {n:Nat} (h:n < d.length):zA0 (d.getD n default)=true:=by
 have:=zA5 hd h
 simp only [zS7,Bool.and_eq_true] at this
 exact this.1
theorem zBu {x:Nd} (h:zA0 x=true):x.cls.length≤6∧x.att.length≤4:=by
 simp only [zA0,Bool.and_eq_true,decide_eq_true_eq] at h
 exact ⟨h.1.1.1.2,h.1.1.2⟩
theorem zDv {α β:Type} {f:α→β} {l:List α} {i:Nat} (d:α) (h:i < l.length):(l.take (i+1)).map f=(l.take i).map f++[f (l.getD i d)]:=by
 rw [List.take_succ_eq_append_getElem h,List.map_append];simp [h]
theorem zLy (d:List Nd) (hd:zCm d d.length=true) (hl:d.length≤64):∀ (f n:Nat),n < d.length→d.length-n≤f→Contract Tryz.prog zBL [.val (zBE d),.val (iv n)] {res:=.val (.agg (trV (zBY d f n)))}
 |0,n,h1,h2=>by omega
 |f+1,n,h1,h2=>by
  have ih:=zLy d hd hl f
  unfold zBE at ih ⊢
  simp only [zBY,trV]
  refine mkA zTF (base:=0) (fo rfl) (fun hfit=>?_)
  unfold F0 zLm
  simp (maxSteps:=2000000) only [zAM,List.set_cons_succ,List.set_cons_zero,List.map_cons,List.map_nil,zAL,zAa,ioOf,List.length_cons,List.length_nil,Nat.reduceAdd,Nat.reduceSub,List.replicate,List.cons_append,List.nil_append]
  try simp (maxSteps:=2000000) only [go_sem]
  repeat with_reducible refine zAb ?_
  try simp (maxSteps:=2000000) only [go_sem,zA4 _ _ h1]
  repeat with_reducible refine zAb ?_
  have hfn:=zBu (zC9 hd h1)
  refine zAq (by repeat' constructor) (zDu _ (by omega) (by omega)) ?_
  try simp (maxSteps:=2000000) only [go_sem,zA4 _ _ h1]
  repeat with_reducible refine zAb ?_
  refine zBa (by repeat' constructor) (zEX _ _ hl) ?_
  try simp (maxSteps:=2000000) only [go_sem]
  repeat with_reducible refine zAb ?_
  refine zAx (fun i:Nat=>[(7,.pv (iv i)),(21,.un),(47,.own zAl 6 (zO8 (((zBf d n).take i).map fun k=>zBY d f k.toNat)))]) (fun i:Nat=>(zBf d n).length-i) (fun i:Nat=>i≤(zBf d n).length) (0) ?_ (Nat.zero_le _) ?_
  focus (simp (maxSteps:=2000000) only [go_sem,zAn,zAw,zAJ,zAo];all_goals (repeat' (first|exact trivial|exact zAy (by omega)|exact zAu rfl|exact zAN rfl|exact zAA|exact le_refl _|refine And.intro ?_ ?_)))
  intro i hi
  have hkl:(zBf d n).length≤d.length:=zFM _
  have htl:(zO8 (((zBf d n).take i).map fun k=>zBY d f k.toNat)).length=i:=by simp [zEY];omega
  try simp (maxSteps:=2000000) only [go_sem]
  repeat with_reducible refine zAb ?_
  refine zAd (by rfl) trivial (fun h=>?_) (fun h=>?_)
  ·have hlt:i < (zBf d n).length:=by simpa using h
   obtain ⟨m,hm1,hm2,hm3⟩:=zKN hd hlt
   try simp (maxSteps:=2000000) only [go_sem,zDT _ _ hlt,hm1]
   repeat with_reducible refine zAb ?_
   refine zAq (by repeat' constructor) (ih m hm2 (by omega)) ?_
   try simp (maxSteps:=2000000) only [go_sem,htl]
   repeat with_reducible refine zAb ?_
   refine ⟨i+1,by omega,hlt,?_⟩
   simp (maxSteps:=2000000) only [go_sem,zAn,zAw,zAJ,zAo]
   all_goals (repeat' (first|exact trivial|exact zAy (by omega)|exact zAu rfl|exact zAN rfl|exact zAA|exact le_refl _|refine And.intro ?_ ?_))
   refine zFx ?_
   rw [zDv 0 hlt,zHM,hm1]
   rfl
  ·try simp (maxSteps:=2000000) only [go_sem]
   repeat with_reducible refine zAb ?_
   refine zCO rfl rfl ?_
   have:i=(zBf d n).length:=by simp at h;omega
   rw [this,List.take_length]
   rfl
mutual
def zMV:Tr→List Nd→Int→List Nd
 |.mk x ks,l,up=>zB7 ks (l++[{x with up:=up}]) l.length
def zB7:List Tr→List Nd→Int→List Nd
 |[],l,_=>l
 |t::r,l,n=>zB7 r (zMV t l n) n
end
mutual
def szT:Tr→Nat
 |.mk _ ks=>zJc ks+1
def zJc:List Tr→Nat
 |[]=>0
 |t::r=>szT t+zJc r
end
mutual
theorem zZ8:∀ (t:Tr) (l:List Nd) (n:Int),(zMV t l n).length=l.length+szT t
 |.mk x ks,l,n=>by simp only [zMV,szT,zPa ks,List.length_append,List.length_cons,List.length_nil];omega
theorem zPa:∀ (t:List Tr) (l:List Nd) (n:Int),(zB7 t l n).length=l.length+zJc t
 |[],l,n=>by simp [zB7,zJc]
 |t::r,l,n=>by simp only [zB7,zJc,zPa r,zZ8 t];omega
end
theorem zWV:∀ (a b:List Tr) (l:List Nd) (n:Int),zB7 (a++b) l n=zB7 b (zB7 a l n) n
 |[],b,l,n=>rfl
 |t::a,b,l,n=>by simp only [List.cons_append,zB7,zWV a]
theorem zC2 {α:Type} {l:List α} {i:Nat} (d:α) (h:i < l.length):l.take (i+1)=l.take i++[l.getD i d]:=by
 rw [List.take_succ_eq_append_getElem h];simp [h]
theorem zJ3:∀ {l:List Tr} {i:Nat},i < l.length→zJc (l.take i)+szT (l.getD i default)≤zJc l
 |t::r,0,_=>by simp [zJc]
 |t::r,i+1,h=>by
  have:=zJ3 (l:=r) (i:=i) (by simpa using h)
  simp only [List.take_succ_cons,zJc,List.getD_cons_succ]
  omega
theorem zHN (a b:List Nd):zDd (a++b)=zDd a++zDd b:=by simp [zDd]
theorem zPb:∀ (N:Nat) (t:Tr) (l:List Nd) (up:Int),szT t≤N→l.length+szT t≤1000000→Contract Tryz.prog zFz [.own zAz 5 (zDd l),.val (.agg (trV t)),.val (iv up)] {res:=.own zAz 5 (zDd (zMV t l up))}
 |0,.mk x ks,l,up,h1,_=>by simp [szT] at h1
 |N+1,.mk x ks,l,up,h1,h2=>by
  have ih:=zPb N
  simp only [szT] at h1 h2
  simp only [zMV,trV]
  refine mkA yA8 (base:=0) (fo rfl) (fun hfit=>?_)
  unfold F0 zWg
  simp (maxSteps:=2000000) only [zAM,List.set_cons_succ,List.set_cons_zero,List.map_cons,List.map_nil,zAL,zAa,ioOf,List.length_cons,List.length_nil,Nat.reduceAdd,Nat.reduceSub,List.replicate,List.cons_append,List.nil_append]
  try simp (maxSteps:=2000000) only [go_sem]
  repeat with_reducible refine zAb ?_
  have hm:=zDl (k:=6) hfit.2.1.2.2.2.2.2.1
  rw [zEY] at hm
  refine zAx (fun i:Nat=>[(0,.own zAz 5 (zDd (zB7 (ks.take i) (l++[{x with up:=up}]) l.length))),(8,.pv (iv i)),(23,.un)]) (fun i:Nat=>ks.length-i) (fun i:Nat=>i≤ks.length) (0) ?_ (Nat.zero_le _) ?_
  focus (simp (maxSteps:=2000000) only [go_sem,zAn,zAw,zAJ,zAo];all_goals (repeat' (first|exact trivial|exact zAy (by omega)|exact zAu rfl|exact zAN rfl|exact zAA|exact le_refl _|refine And.intro ?_ ?_)))
  ·simp only [zB7,zHN]
   exact zAN rfl
  intro i hi
  try simp (maxSteps:=2000000) only [go_sem]
  repeat with_reducible refine zAb ?_
  refine zAd (by rfl) trivial (fun h=>?_) (fun h=>?_)
  ·have hlt:i < ks.length:=by simpa using h
   try simp (maxSteps:=2000000) only [go_sem,zJ2 _ _ hlt]
   repeat with_reducible refine zAb ?_
   have hsz:=zJ3 hlt
   have hln:=zPa (ks.take i) (l++[{x with up:=up}]) l.length
   simp only [List.length_append,List.length_cons,List.length_nil] at hln
   refine zBa (by repeat' constructor) (Contract.av (ih (ks.getD i default) (zB7 (ks.take i) (l++[{x with up:=up}]) l.length) l.length (by omega) (by omega)) (by first|rfl|(simp (maxSteps:=2000000) only [go_sem];done)|(simp (maxSteps:=2000000) only [go_sem];rfl))) ?_
   try simp (maxSteps:=2000000) only [go_sem]
   repeat with_reducible refine zAb ?_
   refine ⟨i+1,by omega,hlt,?_⟩
   simp (maxSteps:=2000000) only [go_sem,zAn,zAw,zAJ,zAo]
   all_goals (repeat' (first|exact trivial|exact zAy (by omega)|exact zAu rfl|exact zAN rfl|exact zAA|exact le_refl _|refine And.intro ?_ ?_))
   refine zFx ?_
   rw [zC2 default hlt,zWV]
   rfl
  ·try simp (maxSteps:=2000000) only [go_sem]
   repeat with_reducible refine zAb ?_
   have:i=ks.length:=by simp at h;omega
   rw [this,List.take_length]
   exact zFU rfl
end Go.Hx
end

section
set_option maxRecDepth 100000
set_option linter.unusedSimpArgs false
namespace Go.Hx
open Go.Proofs
variable [Glob]
attribute [local go_sem] zAh zAm zAk zAg ndV zAr zEY zJ1 zO9 zJ0 List.take_zero List.map_nil
attribute [local go_sem] reduceCtorEq Nat.reduceAdd Nat.reduceEqDiff reduceIte Nat.reduceLeDiff Nat.reduceLT Nat.reduceSub
def zBS (d:List Nd):Nat→Nat→Tr
 |0,n=>.mk (d.getD n default) []
 |f+1,n=>.mk {d.getD n default with up:=n} ((zBf d n).map fun k=>zBS d f k.toNat)
theorem zHo (d:List Nd) (hd:zCm d d.length=true) (hl:d.length≤64):∀ (f n:Nat),n < d.length→d.length-n≤f→Contract Tryz.prog zDo [.val (zBE d),.val (iv n)] {res:=.val (.agg (trV (zBS d f n)))}
 |0,n,h1,h2=>by omega
 |f+1,n,h1,h2=>by
  have ih:=zHo d hd hl f
  unfold zBE at ih ⊢
  simp only [zBS,trV]
  refine mkA zTQ (base:=0) (fo rfl) (fun hfit=>?_)
  unfold F0 zLn
  simp (maxSteps:=2000000) only [zAM,List.set_cons_succ,List.set_cons_zero,List.map_cons,List.map_nil,zAL,zAa,ioOf,List.length_cons,List.length_nil,Nat.reduceAdd,Nat.reduceSub,List.replicate,List.cons_append,List.nil_append]
  try simp (maxSteps:=2000000) only [go_sem]
  repeat with_reducible refine zAb ?_
  refine zAq (by repeat' constructor) (Contract.av (zLy d hd hl (f+1) n h1 h2) (by first|rfl|(simp (maxSteps:=2000000) only [go_sem,zBY,trV];done)|(simp (maxSteps:=2000000) only [go_sem,zBY,trV];rfl))) ?_
  try simp (maxSteps:=2000000) only [go_sem,zBY,trV]
  repeat with_reducible refine zAb ?_
  refine zBa (by repeat' constructor) (zEX _ _ hl) ?_
  try simp (maxSteps:=2000000) only [go_sem]
  repeat with_reducible refine zAb ?_
  refine zAx (fun i:Nat=>[(7,.pv (iv i)),(21,.un),(47,.own zAl 6 (zO8 (((zBf d n).take i).map fun k=>zBS d f k.toNat)))]) (fun i:Nat=>(zBf d n).length-i) (fun i:Nat=>i≤(zBf d n).length) (0) ?_ (Nat.zero_le _) ?_
  focus (simp (maxSteps:=2000000) only [go_sem,zAn,zAw,zAJ,zAo];all_goals (repeat' (first|exact trivial|exact zAy (by omega)|exact zAu rfl|exact zAN rfl|exact zAA|exact le_refl _|refine And.intro ?_ ?_)))
  intro i hi
  have hkl:(zBf d n).length≤d.length:=zFM _
  have htl:(zO8 (((zBf d n).take i).map fun k=>zBS d f k.toNat)).length=i:=by simp [zEY];omega
  try simp (maxSteps:=2000000) only [go_sem]
  repeat with_reducible refine zAb ?_
  refine zAd (by rfl) trivial (fun h=>?_) (fun h=>?_)
  ·have hlt:i < (zBf d n).length:=by simpa using h
   obtain ⟨m,hm1,hm2,hm3⟩:=zKN hd hlt
   try simp (maxSteps:=2000000) only [go_sem,zDT _ _ hlt,hm1]
   repeat with_reducible refine zAb ?_
   refine zAq (by repeat' constructor) (ih m hm2 (by omega)) ?_
   try simp (maxSteps:=2000000) only [go_sem,htl]
   repeat with_reducible refine zAb ?_
   refine ⟨i+1,by omega,hlt,?_⟩
   simp (maxSteps:=2000000) only [go_sem,zAn,zAw,zAJ,zAo]
   all_goals (repeat' (first|exact trivial|exact zAy (by omega)|exact zAu rfl|exact zAN rfl|exact zAA|exact le_refl _|refine And.intro ?_ ?_))
   refine zFx ?_
   rw [zDv 0 hlt,zHM,hm1]
   rfl
  ·try simp (maxSteps:=2000000) only [go_sem]
   repeat with_reducible refine zAb ?_
   refine zCO rfl rfl ?_
   have:i=(zBf d n).length:=by simp at h;omega
   rw [this,List.take_length]
   rfl
theorem zWW (d:List Nd) (hl:d.length≤64) (hn:∀ i,i < d.length→(d.getD i default).cls.length≤64∧(d.getD i default).att.length≤64):Contract Tryz.prog zCB [.val (zBE d)] {res:=.val (zBE d)}:=by
 unfold zBE
 refine mkA zTZ (base:=0) (fo rfl) (fun hfit=>?_)
 unfold F0 zLo
 simp (maxSteps:=2000000) only [zAM,List.set_cons_succ,List.set_cons_zero,List.map_cons,List.map_nil,zAL,zAa,ioOf,List.length_cons,List.length_nil,Nat.reduceAdd,Nat.reduceSub,List.replicate,List.cons_append,List.nil_append]
 try simp (maxSteps:=2000000) only [go_sem]
 repeat with_reducible refine zAb ?_
 refine zAx (fun i:Nat=>[(4,.pv (iv i)),(9,.un),(25,.own zAz 5 (zDd (d.take i)))]) (fun i:Nat=>d.length-i) (fun i:Nat=>i≤d.length) (0) ?_ (Nat.zero_le _) ?_
 focus (simp (maxSteps:=2000000) only [go_sem,zAn,zAw,zAJ,zAo];all_goals (repeat' (first|exact trivial|exact zAy (by omega)|exact zAu rfl|exact zAN rfl|exact zAA|exact le_refl _|refine And.intro ?_ ?_)))
 intro i hi
 have htl:(zDd (d.take i)).length=i:=by simp [zAh];omega
 try simp (maxSteps:=2000000) only [go_sem]
 repeat with_reducible refine zAb ?_
 refine zAd (by rfl) trivial (fun h=>?_) (fun h=>?_)
 ·have hlt:i < d.length:=by simpa using h
  try simp (maxSteps:=2000000) only [go_sem,zA4 _ _ hlt]
  repeat with_reducible refine zAb ?_
  refine zAq (by repeat' constructor) (zDu _ (hn i hlt).1 (hn i hlt).2) ?_
  try simp (maxSteps:=2000000) only [go_sem,htl]
  repeat with_reducible refine zAb ?_
  refine ⟨i+1,by omega,hlt,?_⟩
  simp (maxSteps:=2000000) only [go_sem,zAn,zAw,zAJ,zAo]
  all_goals (repeat' (first|exact trivial|exact zAy (by omega)|exact zAu rfl|exact zAN rfl|exact zAA|exact le_refl _|refine And.intro ?_ ?_))
  refine zFx ?_
  rw [zC2 default hlt,zHN]
  rfl
 ·try simp (maxSteps:=2000000) only [go_sem]
  repeat with_reducible refine zAb ?_
  refine zCO rfl rfl ?_
  have:i=d.length:=by simp at h;omega
  rw [this,List.take_length]
  rfl
mutual
def yDf:Tr→Int→Tr
 |.mk x ks,n=>.mk x (zGv ks n)
def zGv:List Tr→Int→List Tr
 |[],_=>[]
 |t::r,n=>if t.nd.up=n then zGv r n else yDf t n::zGv r n
end
theorem zPc (n:Int):∀ a b:List Tr,zGv (a++b) n=zGv a n++zGv b n
 |[],b=>rfl
 |t::a,b=>by simp only [List.cons_append,zGv,zPc n a];split<;>rfl
theorem zWX (n:Int):∀ a:List Tr,(zGv a n).length≤a.length
 |[]=>Nat.le_refl _
 |t::a=>by simp only [zGv];have:=zWX n a;split<;>simp<;>omega
theorem zU9:∀ ks:List Tr,ks.length≤zJc ks
 |[]=>Nat.le_refl _
 |.mk x k::r=>by have:=zU9 r;simp [zJc,szT];omega
theorem yIh (t:Tr):trV t=[bI t.nd.up,bS t.nd.tag,bS t.nd.id,.sl 1 (zVD t.nd.cls),.sl 2 (zVE t.nd.att),.sl 6 (zO8 t.kids)]:=by cases t;rfl
theorem zJ4:∀ (N:Nat) (t:Tr) (n:Int),szT t≤N→N≤1000000→Contract Tryz.prog zDL [.val (.agg (trV t)),.val (iv n)] {res:=.val (.agg (trV (yDf t n)))}
 |0,.mk x ks,n,h1,_=>by simp [szT] at h1
 |N+1,.mk x ks,n,h1,h2=>by
  have ih:=zJ4 N
  simp only [szT] at h1 h2
  simp only [yDf,trV]
  refine mkA zQB (base:=0) (fo rfl) (fun hfit=>?_)
  unfold F0 zJx
  simp (maxSteps:=2000000) only [zAM,List.set_cons_succ,List.set_cons_zero,List.map_cons,List.map_nil,zAL,zAa,ioOf,List.length_cons,List.length_nil,Nat.reduceAdd,Nat.reduceSub,List.replicate,List.cons_append,List.nil_append]
  try simp (maxSteps:=2000000) only [go_sem]
  repeat with_reducible refine zAb ?_
  have hks:=zU9 ks
  refine zAx (fun i:Nat=>[(5,.own zAl 6 (zO8 (zGv (ks.take i) n))),(6,.pv (iv i)),(11,.un),(22,.un)]) (fun i:Nat=>ks.length-i) (fun i:Nat=>i≤ks.length) (0) ?_ (Nat.zero_le _) ?_
  focus (simp (maxSteps:=2000000) only [go_sem,zAn,zAw,zAJ,zAo];all_goals (repeat' (first|exact trivial|exact zAy (by omega)|exact zAu rfl|exact zAN rfl|exact zAA|exact le_refl _|refine And.intro ?_ ?_)))
  intro i hi
  try simp (maxSteps:=2000000) only [go_sem]
  repeat with_reducible refine zAb ?_
  refine zAd (by rfl) trivial (fun h=>?_) (fun h=>?_)
  ·have hlt:i < ks.length:=by simpa using h
   have hw:=zWX n (ks.take i)
   simp only [List.length_take] at hw
   have hsz:=zJ3 hlt
   try simp (maxSteps:=2000000) only [go_sem,zJ2 _ _ hlt,yIh]
   repeat with_reducible refine zAb ?_
   refine zAd (by rfl) trivial (fun h3=>?_) (fun h3=>?_)
   ·try simp (maxSteps:=2000000) only [go_sem,zJ2 _ _ hlt]
    repeat with_reducible refine zAb ?_
    refine zAq (by repeat' constructor) (Contract.av (ih (ks.getD i default) n (by omega) (by omega)) (by first|rfl|(simp (maxSteps:=2000000) only [go_sem];done)|(simp (maxSteps:=2000000) only [go_sem];rfl))) ?_
    try simp (maxSteps:=2000000) only [go_sem]
    repeat with_reducible refine zAb ?_
    refine ⟨i+1,by omega,hlt,?_⟩
    simp (maxSteps:=2000000) only [go_sem,zAn,zAw,zAJ,zAo]
    all_goals (repeat' (first|exact trivial|exact zAy (by omega)|exact zAu rfl|exact zAN rfl|exact zAA|exact le_refl _|refine And.intro ?_ ?_))
    refine zFx ?_
    have h4:¬ (ks.getD i default).nd.up=n:=by simpa using h3
    rw [zC2 default hlt,zPc]
    simp only [zGv,h4,if_false,zHM]
    rfl
   ·try simp (maxSteps:=2000000) only [go_sem]
    repeat with_reducible refine zAb ?_
    refine ⟨i+1,by omega,hlt,?_⟩
    simp (maxSteps:=2000000) only [go_sem,zAn,zAw,zAJ,zAo]
    all_goals (repeat' (first|exact trivial|exact zAy (by omega)|exact zAu rfl|exact zAN rfl|exact zAA|exact le_refl _|refine And.intro ?_ ?_))
    refine zFx ?_
    have h4:(ks.getD i default).nd.up=n:=by simpa using h3
    rw [zC2 default hlt,zPc]
    simp only [zGv,h4,if_true,List.append_nil]
  ·try simp (maxSteps:=2000000) only [go_sem]
   repeat with_reducible refine zAb ?_
   refine zCO rfl rfl ?_
   have:i=ks.length:=by simp at h;omega
   rw [this,List.take_length]
   rfl
end Go.Hx
end

section
set_option maxRecDepth 100000
set_option linter.unusedSimpArgs false
namespace Go.Hx
open Go.Proofs
variable [Glob]
attribute [local go_sem] zAh zAm zAk zAg ndV zAr zEY zJ1 zO9 zJ0 List.take_zero List.map_nil
attribute [local go_sem] reduceCtorEq Nat.reduceAdd Nat.reduceEqDiff reduceIte Nat.reduceLeDiff Nat.reduceLT Nat.reduceSub
theorem yD6 (d:List Nd) (f n:Nat) (h:0 < f):(zBS d f n).nd.up=n:=by
 cases f with
 |zero=>omega
 |succ f=>rfl
def yIF (d:List Nd) (n:Nat):List Nd:=zMV (yDf (zBS d d.length 0) n) [] (-1)
def zEz (d:List Nd) (n:Int):List Nd×Int:=
 if zBq d n=0 then (if n=0 then ([],3) else (yIF d n.toNat,0)) else ([],zBq d n)
theorem zDX {d:List Nd} {n:Int} (h:zBq d n=0):zAi d=0∧0≤n∧n < d.length:=by
 unfold zBq at h
 split at h
 ·rename_i h1
  split at h
  ·exact ⟨h1,by omega,by omega⟩
  ·omega
 ·contradiction
theorem zAO {d:List Nd} (h:zAi d=0):1≤d.length∧d.length≤64∧zCm d d.length=true:=by
 unfold zAi at h
 split at h
 ·rename_i h1
  split at h
  ·rename_i h2
   exact ⟨h1.1,h1.2,h2⟩
  ·omega
 ·omega
mutual
theorem yCG:∀ (t:Tr) (n:Int),szT (yDf t n)≤szT t
 |.mk x ks,n=>by simp only [yDf,szT];have:=zZ9 ks n;omega
theorem zZ9:∀ (t:List Tr) (n:Int),zJc (zGv t n)≤zJc t
 |[],n=>Nat.le_refl _
 |t::r,n=>by
  simp only [zGv,zJc]
  have:=zZ9 r n
  have:=yCG t n
  split
  ·omega
  ·simp only [zJc];omega
end
theorem zPd (d:List Nd) (n:Int) (hs:zBq d n=0→szT (zBS d d.length 0)≤100000):Contract Tryz.prog zCT [.val (zBE d),.val (iv n)] {res:=.tup [zBE (zEz d n).1,iv (zEz d n).2]}:=by
 unfold zBE
 refine mkA zLV (base:=0) (fo rfl) (fun hfit=>?_)
 unfold F0 zGI
 simp (maxSteps:=2000000) only [zAM,List.set_cons_succ,List.set_cons_zero,List.map_cons,List.map_nil,zAL,zAa,ioOf,List.length_cons,List.length_nil,Nat.reduceAdd,Nat.reduceSub,List.replicate,List.cons_append,List.nil_append]
 try simp (maxSteps:=2000000) only [go_sem]
 repeat with_reducible refine zAb ?_
 refine zAq (by repeat' constructor) (Contract.av (zO7 d n) (by first|rfl|(simp (maxSteps:=2000000) only [go_sem];done)|(simp (maxSteps:=2000000) only [go_sem];rfl))) ?_
 try simp (maxSteps:=2000000) only [go_sem]
 repeat with_reducible refine zAb ?_
 refine zAd (by rfl) trivial (fun h=>?_) (fun h=>?_)
 ·try simp (maxSteps:=2000000) only [go_sem]
  repeat with_reducible refine zAb ?_
  have h2:¬ zBq d n=0:=by simpa using h
  simp only [zEz,h2,if_false]
  exact zAR (by simp) ⟨zAH rfl rfl (.inr rfl),zA7 rfl trivial (.inl rfl),rfl⟩
 have h2:zBq d n=0:=by simpa using h
 have hs:=hs h2
 obtain ⟨h3,h4,h5⟩:=zDX h2
 obtain ⟨h6,h7,h8⟩:=zAO h3
 try simp (maxSteps:=2000000) only [go_sem]
 repeat with_reducible refine zAb ?_
 refine zAd (by rfl) trivial (fun h9=>?_) (fun h9=>?_)
 ·try simp (maxSteps:=2000000) only [go_sem]
  repeat with_reducible refine zAb ?_
  have h10:n=0:=by simpa using h9
  simp only [zEz,h2,if_true,if_pos h10]
  exact zAR (by simp) ⟨zAH rfl rfl (.inr rfl),zA7 rfl trivial (.inl rfl),rfl⟩
 ·try simp (maxSteps:=2000000) only [go_sem]
  repeat with_reducible refine zAb ?_
  have h10:¬ n=0:=by simpa using h9
  refine zAq (by repeat' constructor) (Contract.av (zHo d h8 h7 d.length 0 (by omega) (by omega)) (by first|rfl|(simp (maxSteps:=2000000) only [go_sem];done)|(simp (maxSteps:=2000000) only [go_sem];rfl))) ?_
  try simp (maxSteps:=2000000) only [go_sem]
  repeat with_reducible refine zAb ?_
  refine zAq (by repeat' constructor) (Contract.av (zJ4 _ (zBS d d.length 0) n (Nat.le_refl _) (by omega)) (by first|rfl|(simp (maxSteps:=2000000) only [go_sem];done)|(simp (maxSteps:=2000000) only [go_sem];rfl))) ?_
  try simp (maxSteps:=2000000) only [go_sem]
  repeat with_reducible refine zAb ?_
  have:=yCG (zBS d d.length 0) n
  refine zBa (by repeat' constructor) (Contract.av (zPb _ (yDf (zBS d d.length 0) n) [] (-1) (Nat.le_refl _) (by simp;omega)) (by first|rfl|(simp (maxSteps:=2000000) only [go_sem];done)|(simp (maxSteps:=2000000) only [go_sem];rfl))) ?_
  try simp (maxSteps:=2000000) only [go_sem]
  repeat with_reducible refine zAb ?_
  simp only [zEz,h2,h10,if_true,if_false,yIF,show (n.toNat:Int)=n by omega]
  exact zAR (by simp) ⟨zAH rfl rfl (.inl rfl),zA7 rfl trivial (.inl rfl),rfl⟩
end Go.Hx
end

section
set_option maxRecDepth 100000
set_option linter.unusedSimpArgs false
namespace Go.Hx
open Go.Proofs
variable [Glob]
attribute [local go_sem] zAh zAm zAk zAg ndV zAr zAp
end Go.Hx
end

section
set_option maxRecDepth 100000
set_option linter.unusedSimpArgs false
namespace Go.Hx
open Go.Proofs
variable [Glob]
attribute [local go_sem] zAh zAm zAk zAg ndV zAr zAp zBE
end Go.Hx
end

section
set_option maxRecDepth 100000
set_option linter.unusedSimpArgs false
namespace Go.Hx
open Go.Proofs
variable [Glob]
attribute [local go_sem] zAh zAm zAk zAg ndV zAr zAp zBE
end Go.Hx
end

section
set_option maxRecDepth 100000
set_option linter.unusedSimpArgs false
namespace Go.Hx
open Go.Proofs
variable [Glob]
attribute [local go_sem] zAh zAm zAk zAg ndV zAr zAp zBE List.take_nil
end Go.Hx
end

section
set_option maxRecDepth 100000
set_option linter.unusedSimpArgs false
namespace Go.Hx
open Go.Proofs
variable [Glob]
attribute [local go_sem] zAh zAm zAk zAg ndV zAr zAp zBE List.take_nil
end Go.Hx
end

section
set_option maxRecDepth 100000
set_option linter.unusedSimpArgs false
namespace Go.Hx
open Go.Proofs
variable [Glob]
attribute [local go_sem] zAh zAm zAk zAg ndV zAr zAp zBE List.take_nil zBD zBC
end Go.Hx
end

section
set_option maxRecDepth 100000
set_option linter.unusedSimpArgs false
namespace Go.Hx
open Go.Proofs
variable [Glob]
attribute [local go_sem] zAh zAm zAk zAg ndV zAr zAp zBE List.take_nil zBb
end Go.Hx
end

section
/-
 Where a count holds: what the program and the document reckon is the same. Plain Lean. No condition.
-/
namespace Go.Hx
variable [Glob] [GlobL]
end Go.Hx
end

section
/-
 The abstract code of functions of the program, printed by gen.py; each stands for the given one. No condition.
-/
namespace Go.Hx
open Go.Proofs
variable [Glob]
abbrev zKQ:Nat:=79
abbrev zD7:Nat:=34
abbrev zDN:Nat:=86
abbrev zYL:HCode:=oN [⟨none,.vnl 4 zAz 5⟩]
abbrev zYM:HCode:=oN [⟨none,.vnl 5 zAz 5⟩]
abbrev zYN:HCode:=oN [oV 8 (.mv (.t 0)),
  oV 9 (.len false (.t 8)),
  oV 10 (.mv (.c (iv 0)))]
abbrev zYO:HCode:=oN [oV 11 (.ints .lss (.t 10) (.t 9))]
abbrev zYP:HCode:=oR [oV 12 (.idxA 5 (.t 8) (.t 10)),
  oV 13 (.ldR (.t 12) 5 true),
  ⟨none,.alloc 7 0 33 [.v (.int .i64 0),.v (mkS []),.v (mkS []),.nl 1,.nl 2]⟩,
  ⟨none,.sto (.t 7) 0 33 0 5 (.t 13)⟩] [12,13]
abbrev zYQ:HCode:=oQ [oD 0 false (oV 14 (.mv (.t 1))),
  oD 1 false (oV 15 (.fldP (.t 7) 0)),
  oD 2 false (oV 16 (.ldB (.t 15) 0 33 0 1 false)),
  oD 3 false ⟨none,.callv (some 17) (.t 14) [(.t 16,.v)]⟩,
  oD 4 false (oV 18 (.fldP (.t 7) 3)),
  oD 5 false (oV 19 (.ldB (.t 18) 0 33 3 1 false)),
  oD 6 false (oC 20 zA1 [(.t 19,.v)]),
  oD 7 false (oV 21 (.fldP (.t 7) 4)),
  oD 8 false (oV 22 (.ldB (.t 21) 0 33 4 1 false)),
  oD 9 false (oC 23 zBg [(.t 22,.v)]),
  oD 10 false (oV 24 (.fldP (.t 7) 0)),
  oD 11 false ⟨none,.sto (.t 24) 0 33 0 1 (.t 17)⟩,
  oD 12 false (oV 25 (.fldP (.t 7) 3)),
  oD 13 false ⟨none,.sto (.t 25) 0 33 3 1 (.t 20)⟩,
  oD 14 false (oV 26 (.fldP (.t 7) 4)),
  oD 15 false ⟨none,.sto (.t 26) 0 33 4 1 (.t 23)⟩] [14,15,16,17,18,19,20,21,22,23,24,25,26]
abbrev zYR:HCode:=oR [⟨none,.vmv 27 5⟩,
  oV 28 (.ldB (.t 7) 0 33 0 5 true),
  oV 29 (.bslF 5 [.t 28]),
  ⟨none,.vap 30 zAz 5 27 (.t 29)⟩,
  ⟨none,.vmv 5 30⟩] [27,28,29,30]
abbrev zYS:HCode:=oR [oV 31 (.ints .add (.t 10) (.c (iv 1))),
  oV 10 (.mv (.t 31))] [31]
abbrev zYT:HCode:=oR [⟨none,.vmv 32 5⟩,
  ⟨none,.vmv 4 32⟩] [32]
abbrev yEe:HCode:=(.seq zYL (.seq zYM (.seq (.seq zYN (.block 0 (.loop (.seq zYO (.seq (.cond (.t 11) .skip (.exit 0)) (.seq (.block 1 (.seq zYP (.seq zYQ zYR))) zYS)))))) (.seq zYT .ret))))
abbrev zSn:Env:={N:=33,Γ:=[(33,5)],L:=38,nfix:=0}
abbrev doc_ownV_R:List RSrc:=[.tmp 4]
theorem zYU:zBV Tryz.prog zCb yEe zSn doc_ownV_R:=by kernel_rfl
abbrev zYV:HCode:=oN [oV 3 (.boxF (.t 0)),
  ⟨none,.box 5 0 44 5 (.t 2)⟩,
  ⟨none,.alloc 6 1 49 [.nl 5]⟩,
  oV 7 (.mv (.c (iv 0)))]
abbrev zYW:HCode:=oR [oV 10 (.ldR (.t 3) 1 true),
  oV 11 (.mv (.t 1)),
  oC 12 zES [(.t 10,.v),(.t 11,.v)],
  oV 8 (.mv (.t 12))] [10,11,12]
abbrev zYX:HCode:=oR [oV 13 (.mv (.t 8)),
  oV 14 (.ints .neq (.t 13) (.c (iv 0)))] [13]
abbrev zYY:HCode:=oR [oV 15 (.bld [.nl 5] []),
  oV 16 (.mv (.t 8)),
  ⟨none,.sto (.t 6) 1 49 0 1 (.t 15)⟩,
  oV 7 (.mv (.t 16))] [15,16]
abbrev zYZ:HCode:=oR [oV 17 (.ldB (.t 5) 0 44 0 5 true),
  oC 18 zFZ [(.t 17,.v)],
  oV 19 (.not (.t 18))] [17,18]
abbrev zY0:HCode:=oR [oV 20 (.bld [.nl 5] []),
  ⟨none,.sto (.t 6) 1 49 0 1 (.t 20)⟩,
  oV 7 (.mv (.c (iv 1)))] [20]
abbrev zY1:HCode:=.reg [oV 21 (.fldR (.t 3) 0 1),
  oV 22 (.ldR (.t 21) 1 false),
  oC 23 zCb [(.t 22,.v),(.f zER,.v)],
  ⟨none,.vmv 9 23⟩] false [.forget [21,22,23],.pin 9 0 0 []]
abbrev zY2:HCode:=oQ [oD 0 false (oV 24 (.mv (.t 9))),
  oD 1 false (oV 25 (.mv (.t 1))),
  oD 2 false (oV 26 (.idxA 5 (.t 24) (.t 25))),
  oD 3 false (oV 27 (.fldP (.t 26) 0)),
  oD 4 false ⟨none,.vlp 28 (.t 27) 9 0 0 [] 1 false⟩,
  oD 5 false (oV 29 (.fldP (.t 5) 3)),
  oD 6 false (oV 30 (.ldB (.t 29) 0 44 3 1 false)),
  oD 7 false (oC 31 zA1 [(.t 30,.v)]),
  oD 8 false (oV 32 (.fldP (.t 5) 4)),
  oD 9 false (oV 33 (.ldB (.t 32) 0 44 4 1 false)),
  oD 10 false (oC 34 zBg [(.t 33,.v)]),
  oD 11 false (oV 35 (.fldP (.t 5) 0)),
  oD 12 false ⟨none,.sto (.t 35) 0 44 0 1 (.t 28)⟩,
  oD 13 false (oV 36 (.fldP (.t 5) 3)),
  oD 14 false ⟨none,.sto (.t 36) 0 44 3 1 (.t 31)⟩,
  oD 15 false (oV 37 (.fldP (.t 5) 4)),
  oD 16 false ⟨none,.sto (.t 37) 0 44 4 1 (.t 34)⟩] [24,25,26,27,28,29,30,31,32,33,34,35,36,37]
abbrev zY3:HCode:=.reg [oV 38 (.mv (.t 9)),
  oV 39 (.mv (.t 1)),
  oV 40 (.ldB (.t 5) 0 44 0 5 true),
  oV 41 (.idxA 5 (.t 38) (.t 39)),
  ⟨none,.vse (.t 41) 9 0 0 [] 5 (.t 40)⟩] false [.forget [38,39,40,41],.vfr 9 0 0]
abbrev zY4:HCode:=oR [oV 42 (.mv (.t 9)),
  oV 43 (.bld [.nl 5] [(0,1,.t 42)]),
  ⟨none,.sto (.t 6) 1 49 0 1 (.t 43)⟩,
  oV 7 (.mv (.c (iv 0)))] [42,43]
abbrev yEf:HCode:=(.seq zYV (.seq (.seq zYW (.seq zYX (.cond (.t 14) (.seq zYY .ret) .skip))) (.seq (.seq zYZ (.cond (.t 19) (.seq zY0 .ret) .skip)) (.seq zY1 (.seq zY2 (.seq zY3 (.seq zY4 .ret)))))))
abbrev zSo:Env:={N:=44,Γ:=[(44,5),(49,1)],L:=50,nfix:=0}
abbrev doc_PutV_R:List RSrc:=[.cellB 6 1 49 0 1 true,.tmp 7]
theorem zY5:zBV Tryz.prog zKQ yEf zSo doc_PutV_R:=by kernel_rfl
end Go.Hx
end

section
/-
 The abstract code of functions of the program, printed by gen.py; each stands for the given one. No condition.
-/
namespace Go.Hx
open Go.Proofs
variable [Glob]
abbrev zEj:Nat:=36
abbrev zQ5:HCode:=oN [oV 1 (.boxF (.t 0)),
  ⟨none,.alloc 2 0 24 [.nl 5]⟩]
abbrev zQ6:HCode:=oN [⟨none,.alloc 3 1 25 [.nl 5]⟩]
abbrev zQ7:HCode:=oN [oV 4 (.mv (.c (iv 0)))]
abbrev zQ8:HCode:=oR [oV 5 (.mv (.t 4)),
  oV 6 (.fldR (.t 1) 0 1),
  oV 7 (.ldR (.t 6) 1 false),
  oV 8 (.len false (.t 7)),
  oV 9 (.ints .lss (.t 5) (.t 8))] [5,6,7,8]
abbrev zQ9:HCode:=oQ [oD 0 false (oV 12 (.fldP (.t 3) 0)),
  oD 1 false ⟨none,.vld 13 (.t 12) 1 25 0 1 false⟩,
  oD 2 false (oV 14 (.fldR (.t 1) 0 1)),
  oD 3 false (oV 15 (.ldR (.t 14) 1 false)),
  oD 4 false (oV 16 (.mv (.t 4))),
  oD 5 false (oV 17 (.idxA 5 (.t 15) (.t 16))),
  oD 6 false (oV 18 (.ldR (.t 17) 5 true)),
  oD 7 true (oC 19 zBQ [(.t 18,.v)]),
  oD 8 false (oV 20 (.bslF 5 [.t 19])),
  oD 9 false ⟨none,.vap 21 zAz 5 13 (.t 20)⟩,
  oD 10 false (oV 22 (.fldP (.t 3) 0)),
  oD 11 false ⟨none,.vst (.t 22) 1 25 0 1 21⟩] [12,13,14,15,16,17,18,19,20,21,22]
abbrev zRa:HCode:=oR [oV 10 (.mv (.t 4)),
  oV 11 (.ints .add (.t 10) (.c (iv 1))),
  oV 4 (.mv (.t 11))] [10,11]
abbrev zRb:HCode:=oR [⟨none,.vld 23 (.t 3) 1 25 0 1 true⟩,
  ⟨none,.vst (.t 2) 0 24 0 1 23⟩] [23]
abbrev zY6:HCode:=(.seq zQ5 (.seq zQ6 (.seq (.seq zQ7 (.block 0 (.loop (.seq (.seq zQ8 (.cond (.t 9) .skip (.exit 0))) (.seq (.block 1 zQ9) zRa))))) (.seq zRb .ret))))
abbrev zJ7:Env:={N:=24,Γ:=[(24,1),(25,1)],L:=26,nfix:=0}
abbrev ref_OwnDocV_R:List RSrc:=[.cellB 2 0 24 0 1 true]
theorem zRc:zBV Tryz.prog zCB zY6 zJ7 ref_OwnDocV_R:=by kernel_rfl
abbrev zRd:HCode:=oN [oV 3 (.boxF (.t 0)),
  oV 5 (.boxF (.t 2)),
  ⟨none,.alloc 6 0 43 [.nl 5]⟩,
  oV 7 (.mv (.c (iv 0)))]
abbrev zRe:HCode:=oR [oV 11 (.ldR (.t 3) 1 true),
  oV 12 (.mv (.t 1)),
  oC 13 zEQ [(.t 11,.v),(.t 12,.v)],
  oV 8 (.mv (.t 13))] [11,12,13]
abbrev zRf:HCode:=oR [oV 14 (.mv (.t 8)),
  oV 15 (.ints .neq (.t 14) (.c (iv 0)))] [14]
abbrev zRg:HCode:=oR [oV 16 (.bld [.nl 5] []),
  oV 17 (.mv (.t 8)),
  ⟨none,.sto (.t 6) 0 43 0 1 (.t 16)⟩,
  oV 7 (.mv (.t 17))] [16,17]
abbrev zRh:HCode:=oR [oV 18 (.ldR (.t 5) 5 true),
  oC 19 zDn [(.t 18,.v)],
  oV 20 (.not (.t 19))] [18,19]
abbrev zRi:HCode:=oR [oV 21 (.bld [.nl 5] []),
  ⟨none,.sto (.t 6) 0 43 0 1 (.t 21)⟩,
  oV 7 (.mv (.c (iv 1)))] [21]
abbrev zRj:HCode:=.reg [oV 22 (.ldR (.t 3) 1 true),
  oC 23 zCB [(.t 22,.v)],
  ⟨none,.alloc 9 1 44 [.nl 5]⟩,
  ⟨none,.vst (.t 9) 1 44 0 1 23⟩] false [.forget [22,23],.pin 44 1 44 []]
abbrev zRk:HCode:=oR [oV 24 (.fldP (.t 9) 0),
  oV 25 (.ldh (.t 24) 1 44 0),
  oV 26 (.mv (.t 1)),
  oV 27 (.idxA 5 (.t 25) (.t 26)),
  oV 28 (.fldP (.t 27) 0),
  ⟨none,.vlp 29 (.t 28) 44 1 44 [] 1 false⟩,
  oV 10 (.mv (.t 29))] [24,25,26,27,28,29]
abbrev zRl:HCode:=oQ [oD 0 false (oV 30 (.fldP (.t 9) 0)),
  oD 1 false (oV 31 (.ldh (.t 30) 1 44 0)),
  oD 2 false (oV 32 (.mv (.t 1))),
  oD 3 false (oV 33 (.ldR (.t 5) 5 true)),
  oD 4 true (oC 34 zBQ [(.t 33,.v)]),
  oD 5 false (oV 35 (.idxA 5 (.t 31) (.t 32))),
  oD 6 false ⟨none,.vse (.t 35) 44 1 44 [] 5 (.t 34)⟩] [30,31,32,33,34,35]
abbrev zRm:HCode:=.reg [oV 36 (.fldP (.t 9) 0),
  oV 37 (.ldh (.t 36) 1 44 0),
  oV 38 (.mv (.t 1)),
  oV 39 (.mv (.t 10)),
  oV 40 (.idxA 5 (.t 37) (.t 38)),
  oV 41 (.fldP (.t 40) 0),
  ⟨none,.vse (.t 41) 44 1 44 [] 1 (.t 39)⟩] false [.forget [36,37,38,39,40,41],.vfr 44 1 44]
abbrev zPk:HCode:=oR [oV 42 (.ldB (.t 9) 1 44 0 1 true),
  ⟨none,.sto (.t 6) 0 43 0 1 (.t 42)⟩,
  oV 7 (.mv (.c (iv 0)))] [42]
abbrev zY7:HCode:=(.seq zRd (.seq (.seq zRe (.seq zRf (.cond (.t 15) (.seq zRg .ret) .skip))) (.seq (.seq zRh (.cond (.t 20) (.seq zRi .ret) .skip)) (.seq zRj (.seq zRk (.seq zRl (.seq zRm (.seq zPk .ret))))))))
abbrev zJ8:Env:={N:=43,Γ:=[(43,1),(44,1)],L:=45,nfix:=0}
abbrev ref_PutDocV_R:List RSrc:=[.cellB 6 0 43 0 1 true,.tmp 7]
theorem zRn:zBV Tryz.prog zEj zY7 zJ8 ref_PutDocV_R:=by kernel_rfl
end Go.Hx
end

section
/-
 The abstract code of functions of the program, printed by gen.py; each stands for the given one. No condition.
-/
namespace Go.Hx
open Go.Proofs
variable [Glob]
abbrev zPm:HCode:=oN [⟨none,.vbx 1 0 24 6 0⟩,
  ⟨none,.alloc 2 1 30 [.v (.int .i64 0),.v (mkS []),.v (mkS []),.nl 1,.nl 2,.nl 6]⟩]
abbrev zPn:HCode:=oR [oV 4 (.fldP (.t 1) 0),
  oV 5 (.fldP (.t 4) 0),
  ⟨none,.sto (.t 5) 0 24 0 1 (.c (iv (-2)))⟩] [4,5]
abbrev zPo:HCode:=.reg [oV 3 (.mv (.c (iv 0)))] false [.pin 29 0 24 []]
abbrev zPp:HCode:=oR [oV 6 (.mv (.t 3)),
  oV 7 (.fldP (.t 1) 5),
  oV 8 (.ldh (.t 7) 0 24 5),
  oV 9 (.len false (.t 8)),
  oV 10 (.ints .lss (.t 6) (.t 9))] [6,7,8,9]
abbrev zPq:HCode:=oQ [oD 0 false (oV 13 (.fldP (.t 1) 5)),
  oD 1 false (oV 14 (.ldh (.t 13) 0 24 5)),
  oD 2 false (oV 15 (.mv (.t 3))),
  oD 3 false (oV 16 (.fldP (.t 1) 5)),
  oD 4 false (oV 17 (.ldh (.t 16) 0 24 5)),
  oD 5 false (oV 18 (.mv (.t 3))),
  oD 6 false (oV 19 (.idxA 6 (.t 17) (.t 18))),
  oD 7 false ⟨none,.vle 20 (.t 19) 29 0 24 [] 6 true⟩,
  oD 8 true ⟨none,.callo 21 zDN 20⟩,
  oD 9 false (oV 22 (.idxA 6 (.t 14) (.t 15))),
  oD 10 false ⟨none,.vse (.t 22) 29 0 24 [] 6 (.t 21)⟩] [13,14,15,16,17,18,19,20,21,22]
abbrev zPr:HCode:=oR [oV 11 (.mv (.t 3)),
  oV 12 (.ints .add (.t 11) (.c (iv 1))),
  oV 3 (.mv (.t 12))] [11,12]
abbrev zPs:HCode:=.regG [.unp 29 0 24 []] [⟨none,.vld 23 (.t 1) 0 24 0 6 true⟩,
  ⟨none,.vst (.t 2) 1 30 0 6 23⟩] [.forget [23]]
abbrev zXa:HCode:=(.seq zPm (.seq zPn (.seq (.seq zPo (.block 0 (.loop (.seq (.seq zPp (.cond (.t 10) .skip (.exit 0))) (.seq (.block 1 zPq) zPr))))) (.seq zPs .ret))))
abbrev zFj:Env:={N:=24,Γ:=[(24,6),(30,6)],L:=36,nfix:=0}
abbrev zRo:List RSrc:=[.cellB 2 1 30 0 6 true]
theorem zPt {x x':OVal} (hW:hwp Tryz.prog zXa (yCf zFj 0 [] zRo {res:=.ov x'}) (F0v zFj x)):zCh Tryz.prog zDN x x':=
 zPl (fn:=Tryz.f86) (c:=Tryz.f86.body.getD .skip) (by kernel_rfl) (by kernel_rfl) (by kernel_rfl) (by kernel_rfl) (by kernel_rfl) (by kernel_rfl) (by kernel_rfl) (by kernel_rfl) (Nat.le_of_ble_eq_true rfl) hW
abbrev zRp:HCode:=oN [oV 2 (.boxF (.t 0)),
  ⟨none,.alloc 4 0 36 [.v (.int .i64 0),.v (mkS []),.v (mkS []),.nl 1,.nl 2,.nl 6]⟩]
abbrev zRq:HCode:=oR [oV 8 (.fldR (.t 2) 0 1),
  oV 9 (.ldR (.t 8) 1 false),
  oV 10 (.mv (.t 1)),
  oV 11 (.idxA 5 (.t 9) (.t 10)),
  oV 12 (.ldR (.t 11) 5 true),
  oC 13 zBQ [(.t 12,.v)],
  oV 14 (.bld [.v (.int .i64 0),.v (mkS []),.v (mkS []),.nl 1,.nl 2,.nl 6] [(0,5,.t 13)]),
  ⟨none,.alloc 5 1 42 [.v (.int .i64 0),.v (mkS []),.v (mkS []),.nl 1,.nl 2,.nl 6]⟩,
  ⟨none,.sto (.t 5) 1 42 0 6 (.t 14)⟩] [8,9,10,11,12,13,14]
abbrev zRr:HCode:=oR [oV 15 (.ldR (.t 2) 1 true),
  oV 16 (.mv (.t 1)),
  oC 17 zCA [(.t 15,.v),(.t 16,.v)],
  oV 6 (.mv (.t 17))] [15,16,17]
abbrev zRs:HCode:=oN [oV 7 (.mv (.c (iv 0)))]
abbrev zRt:HCode:=oR [oV 18 (.mv (.t 7)),
  oV 19 (.mv (.t 6)),
  oV 20 (.len false (.t 19)),
  oV 21 (.ints .lss (.t 18) (.t 20))] [18,19,20]
abbrev zRu:HCode:=oQ [oD 0 false (oV 24 (.fldP (.t 5) 5)),
  oD 1 false ⟨none,.vld 25 (.t 24) 1 42 5 1 false⟩,
  oD 2 false (oV 26 (.ldR (.t 2) 1 true)),
  oD 3 false (oV 27 (.mv (.t 6))),
  oD 4 false (oV 28 (.mv (.t 7))),
  oD 5 false (oV 29 (.idxA 1 (.t 27) (.t 28))),
  oD 6 false (oV 30 (.ldR (.t 29) 1 false)),
  oD 7 true (oC 31 zBL [(.t 26,.v),(.t 30,.v)]),
  oD 8 false ⟨none,.vbs 32 zAl 6 31⟩,
  oD 9 false ⟨none,.vap 33 zAl 6 25 (.t 32)⟩,
  oD 10 false (oV 34 (.fldP (.t 5) 5)),
  oD 11 false ⟨none,.vst (.t 34) 1 42 5 1 33⟩] [24,25,26,27,28,29,30,31,32,33,34]
abbrev zRv:HCode:=oR [oV 22 (.mv (.t 7)),
  oV 23 (.ints .add (.t 22) (.c (iv 1))),
  oV 7 (.mv (.t 23))] [22,23]
abbrev zRw:HCode:=oR [⟨none,.vld 35 (.t 5) 1 42 0 6 true⟩,
  ⟨none,.vst (.t 4) 0 36 0 6 35⟩] [35]
abbrev zY8:HCode:=(.seq zRp (.seq zRq (.seq zRr (.seq (.seq zRs (.block 0 (.loop (.seq (.seq zRt (.cond (.t 21) .skip (.exit 0))) (.seq (.block 1 zRu) zRv))))) (.seq zRw .ret)))))
abbrev zJ9:Env:={N:=36,Γ:=[(36,6),(42,6)],L:=48,nfix:=0}
abbrev ref_treeOfV_R:List RSrc:=[.cellB 4 0 36 0 6 true]
theorem zRx:zBV Tryz.prog zBL zY8 zJ9 ref_treeOfV_R:=by kernel_rfl
abbrev zKR:HCode:=oN [oV 4 (.boxF (.t 0)),
  oV 7 (.boxF (.t 3)),
  ⟨none,.alloc 8 0 62 [.nl 5]⟩,
  oV 9 (.mv (.c (iv 0)))]
abbrev zKS:HCode:=oR [oV 12 (.ldR (.t 4) 1 true),
  oC 13 zBy [(.t 12,.v)],
  oV 10 (.mv (.t 13))] [12,13]
abbrev zKT:HCode:=oR [oV 14 (.mv (.t 10)),
  oV 15 (.ints .neq (.t 14) (.c (iv 0)))] [14]
abbrev zKU:HCode:=oR [oV 16 (.bld [.nl 5] []),
  oV 17 (.mv (.t 10)),
  ⟨none,.sto (.t 8) 0 62 0 1 (.t 16)⟩,
  oV 9 (.mv (.t 17))] [16,17]
abbrev zKV:HCode:=oR [oV 18 (.ldR (.t 7) 1 true),
  oC 19 zBy [(.t 18,.v)],
  oV 11 (.mv (.t 19))] [18,19]
abbrev zKW:HCode:=oR [oV 20 (.mv (.t 11)),
  oV 21 (.ints .neq (.t 20) (.c (iv 0)))] [20]
abbrev zKX:HCode:=oR [oV 22 (.bld [.nl 5] []),
  oV 23 (.mv (.t 11)),
  ⟨none,.sto (.t 8) 0 62 0 1 (.t 22)⟩,
  oV 9 (.mv (.t 23))] [22,23]
abbrev zKY:HCode:=oR [oV 25 (.mv (.t 1)),
  oV 26 (.fldR (.t 4) 0 1),
  oV 27 (.ldR (.t 26) 1 false),
  oV 28 (.len false (.t 27)),
  oV 29 (.ints .sub (.t 28) (.c (iv 1))),
  oC 30 zB0 [(.t 25,.v),(.c (iv 0),.v),(.t 29,.v)],
  oV 31 (.not (.t 30)),
  oV 24 (.mv (.t 31))] [25,26,27,28,29,30,31]
abbrev zKZ:HCode:=oR [oV 32 (.bld [.nl 5] []),
  ⟨none,.sto (.t 8) 0 62 0 1 (.t 32)⟩,
  oV 9 (.mv (.c (iv 5)))] [32]
abbrev zK0:HCode:=oR [oV 34 (.mv (.t 2)),
  oV 35 (.ldR (.t 4) 1 true),
  oV 36 (.mv (.t 1)),
  oC 37 zCA [(.t 35,.v),(.t 36,.v)],
  oV 38 (.len false (.t 37)),
  oC 39 zB0 [(.t 34,.v),(.c (iv 0),.v),(.t 38,.v)],
  oV 40 (.not (.t 39)),
  oV 33 (.mv (.t 40))] [34,35,36,37,38,39,40]
abbrev zKa:HCode:=oR [oV 41 (.bld [.nl 5] []),
  ⟨none,.sto (.t 8) 0 62 0 1 (.t 41)⟩,
  oV 9 (.mv (.c (iv 3)))] [41]
abbrev zKb:HCode:=oR [oV 43 (.fldR (.t 4) 0 1),
  oV 44 (.ldR (.t 43) 1 false),
  oV 45 (.len false (.t 44)),
  oV 46 (.fldR (.t 7) 0 1),
  oV 47 (.ldR (.t 46) 1 false),
  oV 48 (.len false (.t 47)),
  oV 49 (.ints .add (.t 45) (.t 48)),
  oV 50 (.ints .gtr (.t 49) (.c (iv 64))),
  oV 42 (.mv (.t 50))] [43,44,45,46,47,48,49,50]
abbrev zKc:HCode:=oR [oV 51 (.bld [.nl 5] []),
  ⟨none,.sto (.t 8) 0 62 0 1 (.t 51)⟩,
  oV 9 (.mv (.c (iv 2)))] [51]
abbrev zKd:HCode:=oQ [oD 0 false (oV 52 (.ldR (.t 4) 1 true)),
  oD 1 false (oC 53 zDo [(.t 52,.v),(.c (iv 0),.v)]),
  oD 2 false (oV 54 (.mv (.t 1))),
  oD 3 false (oV 55 (.mv (.t 2))),
  oD 4 false (oV 56 (.ldR (.t 7) 1 true)),
  oD 5 true (oC 57 zBL [(.t 56,.v),(.c (iv 0),.v)]),
  oD 6 true ⟨none,.callp 58 zDN 57⟩,
  oD 7 true (oC 59 zFY [(.t 53,.v),(.t 54,.v),(.t 55,.v),(.t 58,.v)]),
  oD 8 true (oC 60 zFz [(.c (.one (.nl 0)),.n zAz 5),(.t 59,.v),(.c (iv (-1)),.v)]),
  oD 9 false (oV 61 (.bld [.nl 5] [(0,1,.t 60)])),
  oD 10 false ⟨none,.sto (.t 8) 0 62 0 1 (.t 61)⟩,
  oD 11 false (oV 9 (.mv (.c (iv 0))))] [52,53,54,55,56,57,58,59,60,61]
abbrev zRy:HCode:=(.seq zKR (.seq (.seq zKS (.seq zKT (.cond (.t 15) (.seq zKU .ret) .skip))) (.seq (.seq zKV (.seq zKW (.cond (.t 21) (.seq zKX .ret) .skip))) (.seq (.block 0 (.seq zKY (.cond (.t 24) (.seq zKZ .ret) (.seq zK0 (.cond (.t 33) (.seq zKa .ret) (.seq zKb (.cond (.t 42) (.seq zKc .ret) .skip))))))) (.seq zKd .ret)))))
abbrev zGe:Env:={N:=62,Γ:=[(62,1)],L:=63,nfix:=0}
abbrev ref_InsertDocV_R:List RSrc:=[.cellB 8 0 62 0 1 true,.tmp 9]
theorem zK1:zBV Tryz.prog zD7 zRy zGe ref_InsertDocV_R:=by kernel_rfl
end Go.Hx
end

section
/-
 The abstract code of functions of the program, printed by gen.py; each stands for the given one. No condition.
-/
namespace Go.Hx
open Go.Proofs
variable [Glob]
abbrev zE0:Nat:=5
abbrev zD8:Nat:=37
abbrev zI2:Nat:=90
abbrev zDO:Nat:=28
abbrev zCV:Nat:=74
abbrev zDY:Nat:=27
abbrev zF7:Nat:=30
abbrev zEk:Nat:=78
abbrev zDP:Nat:=29
abbrev zCW:Nat:=76
abbrev zCu:Nat:=73
abbrev zCF:Nat:=31
abbrev zBH:Nat:=38
abbrev zRz:HCode:=oN [oV 1 (.boxF (.t 0)),
  oV 2 (.mv (.c (.one (.nl 3))))]
abbrev zRA:HCode:=oN [⟨none,.vnl 3 zAE 3⟩]
abbrev zRB:HCode:=oN [oV 4 (.mv (.c (iv 0)))]
abbrev zRC:HCode:=oR [oV 8 (.mv (.t 4)),
  oV 9 (.fldR (.t 1) 0 1),
  oV 10 (.ldR (.t 9) 1 false),
  oV 11 (.len false (.t 10)),
  oV 12 (.ints .lss (.t 8) (.t 11))] [8,9,10,11]
abbrev zRD:HCode:=oR [oV 15 (.fldR (.t 1) 0 1),
  oV 16 (.ldR (.t 15) 1 false),
  oV 17 (.mv (.t 4)),
  oV 18 (.idxA 5 (.t 16) (.t 17)),
  oV 19 (.ldR (.t 18) 5 true),
  oC 20 zIJ [(.t 19,.v)],
  ⟨none,.vmv 5 20⟩] [15,16,17,18,19,20]
abbrev zRE:HCode:=oN [oV 6 (.mv (.c (iv 0)))]
abbrev zRF:HCode:=oR [oV 21 (.mv (.t 6)),
  oV 22 (.mv (.t 5)),
  oV 23 (.len false (.t 22)),
  oV 24 (.ints .lss (.t 21) (.t 23))] [21,22,23]
abbrev zRG:HCode:=oN [oV 7 (.mv (.c (iv 0)))]
abbrev zRH:HCode:=.drgG [.pin 3 0 0 [],.pin 5 0 0 []] [oD 0 false (oV 27 (.mv (.t 7))),
  oD 1 false (oV 28 (.mv (.t 3))),
  oD 2 false (oV 29 (.len false (.t 28))),
  oD 3 false (oV 30 (.ints .lss (.t 27) (.t 29))),
  oD 4 false (oV 31 (.mv (.t 30))),
  oD 5 false (oG 31 true 32 (.mv (.t 5))),
  oD 6 false (oG 31 true 33 (.mv (.t 6))),
  oD 7 false (oG 31 true 34 (.idxA 3 (.t 32) (.t 33))),
  oD 8 false ⟨some (31,true),.vlp 35 (.t 34) 5 0 0 [] 3 true⟩,
  oD 9 false (oG 31 true 36 (.mv (.t 3))),
  oD 10 false (oG 31 true 37 (.mv (.t 7))),
  oD 11 false (oG 31 true 38 (.idxA 3 (.t 36) (.t 37))),
  oD 12 false ⟨some (31,true),.vlp 39 (.t 38) 3 0 0 [] 3 true⟩,
  oD 13 true ⟨some (31,true),.call (some 40) zBG [(.t 35,.v),(.t 39,.v)]⟩,
  oD 14 false (oV 41 (.pick (.t 31) (.t 40) (.c (bv false))))] [.forget [27,28,29,30,31,32,33,34,35,36,37,38,39,40],.unp 3 0 0 [],.unp 5 0 0 []]
abbrev zRI:HCode:=oR [oV 42 (.mv (.t 7)),
  oV 43 (.ints .add (.t 42) (.c (iv 1))),
  oV 7 (.mv (.t 43))] [42,43]
abbrev zPu:HCode:=.drgG [.pin 3 0 0 [],.pin 5 0 0 []] [oD 0 false (oV 44 (.mv (.t 7))),
  oD 1 false (oV 45 (.mv (.t 3))),
  oD 2 false (oV 46 (.len false (.t 45))),
  oD 3 false (oV 47 (.ints .eql (.t 44) (.t 46))),
  oD 4 false (oV 48 (.mv (.t 47))),
  oD 5 false (oG 48 false 49 (.mv (.t 3))),
  oD 6 false (oG 48 false 50 (.mv (.t 7))),
  oD 7 false (oG 48 false 51 (.idxA 3 (.t 49) (.t 50))),
  oD 8 false ⟨some (48,false),.vlp 52 (.t 51) 3 0 0 [] 3 true⟩,
  oD 9 false (oG 48 false 53 (.mv (.t 5))),
  oD 10 false (oG 48 false 54 (.mv (.t 6))),
  oD 11 false (oG 48 false 55 (.idxA 3 (.t 53) (.t 54))),
  oD 12 false ⟨some (48,false),.vlp 56 (.t 55) 5 0 0 [] 3 true⟩,
  oD 13 true ⟨some (48,false),.call (some 57) zBG [(.t 52,.v),(.t 56,.v)]⟩,
  oD 14 false (oV 58 (.pick (.t 48) (.c (bv true)) (.t 57)))] [.forget [44,45,46,47,48,49,50,51,52,53,54,55,56,57],.unp 3 0 0 [],.unp 5 0 0 []]
abbrev zPv:HCode:=oR [⟨none,.vmv 59 3⟩,
  oV 60 (.bld [.v (.int .i64 0),.v (mkS []),.nl 1] []),
  oV 61 (.bslF 3 [.t 60]),
  ⟨none,.vap 62 zAE 3 59 (.t 61)⟩,
  ⟨none,.vmv 3 62⟩] [59,60,61,62]
abbrev zPw:HCode:=.drgG [.pin 3 0 0 []] [oD 0 false (oV 63 (.mv (.t 3))),
  oD 1 false (oV 64 (.mv (.t 7))),
  oD 2 false (oV 65 (.ints .add (.t 64) (.c (iv 1)))),
  oD 3 false (oV 66 (.slr 3 (.t 63) (some (.t 65)) none)),
  oD 4 false (oV 67 (.mv (.t 3))),
  oD 5 false (oV 68 (.mv (.t 7))),
  oD 6 false (oV 69 (.slr 3 (.t 67) (some (.t 68)) none)),
  oD 7 false ⟨none,.cpy (some 70) zAE 3 3 (.t 66) (.t 69)⟩] [.forget [63,64,65,66,67,68,69,70],.unp 3 0 0 []]
abbrev zPx:HCode:=.regG [.pin 3 0 0 [],.pin 5 0 0 []] [oV 71 (.mv (.t 3)),
  oV 72 (.mv (.t 7)),
  oV 73 (.mv (.t 5)),
  oV 74 (.mv (.t 6)),
  oV 75 (.idxA 3 (.t 73) (.t 74)),
  ⟨none,.vle 76 (.t 75) 5 0 0 [] 3 true⟩,
  oV 77 (.idxA 3 (.t 71) (.t 72)),
  ⟨none,.vse (.t 77) 3 0 0 [] 3 (.t 76)⟩] [.forget [71,72,73,74,75,76,77],.unp 3 0 0 [],.unp 5 0 0 []]
abbrev zDx:HCode:=.regG [.pin 3 0 0 []] [oV 78 (.mv (.t 3)),
  oV 79 (.mv (.t 7)),
  oV 80 (.mv (.t 3)),
  oV 81 (.mv (.t 7)),
  oV 82 (.idxA 3 (.t 80) (.t 81)),
  oV 83 (.fldP (.t 82) 2),
  ⟨none,.vle 84 (.t 83) 3 0 0 [] 1 false⟩,
  oV 85 (.mv (.t 4)),
  oV 86 (.bslF 1 [.t 85]),
  ⟨none,.vap 87 zAD 1 84 (.t 86)⟩,
  oV 88 (.idxA 3 (.t 78) (.t 79)),
  oV 89 (.fldP (.t 88) 2),
  ⟨none,.vse (.t 89) 3 0 0 [] 1 (.t 87)⟩] [.forget [78,79,80,81,82,83,84,85,86,87,88,89],.unp 3 0 0 []]
abbrev zPy:HCode:=oR [oV 25 (.mv (.t 6)),
  oV 26 (.ints .add (.t 25) (.c (iv 1))),
  oV 6 (.mv (.t 26))] [25,26]
abbrev zPz:HCode:=oR [oV 13 (.mv (.t 4)),
  oV 14 (.ints .add (.t 13) (.c (iv 1))),
  oV 4 (.mv (.t 14))] [13,14]
abbrev zPA:HCode:=.regG [.vfr 3 0 0] [oV 90 (.mv (.t 3)),
  oV 2 (.mv (.t 90))] [.forget [90]]
abbrev zY9:HCode:=(.seq zRz (.seq zRA (.seq (.seq zRB (.block 0 (.loop (.seq (.seq zRC (.cond (.t 12) .skip (.exit 0))) (.seq (.block 1 (.seq zRD (.seq zRE (.block 2 (.loop (.seq (.seq zRF (.cond (.t 24) .skip (.exit 2))) (.seq (.block 3 (.seq zRG (.seq (.block 4 (.loop (.seq (.seq zRH (.cond (.t 41) .skip (.exit 4))) (.block 5 zRI)))) (.seq (.seq zPu (.cond (.t 58) (.seq zPv (.seq zPw zPx)) .skip)) zDx)))) zPy))))))) zPz))))) (.seq zPA .ret))))
abbrev zKe:Env:={N:=91,Γ:=[],L:=91,nfix:=0}
abbrev ref_IndexOf_R:List RSrc:=[.tmp 2]
theorem zRJ:zBV Tryz.prog zCQ zY9 zKe ref_IndexOf_R:=by kernel_rfl
abbrev zVc:HCode:=oN [oV 2 (.boxF (.t 0)),
  ⟨none,.alloc 4 0 15 [.nl 5,.nl 3]⟩,
  oV 5 (.mv (.c (iv 0)))]
abbrev zVd:HCode:=oR [oV 6 (.mv (.t 1)),
  oV 7 (.ints .neq (.t 6) (.c (iv 0)))] [6]
abbrev zVe:HCode:=oR [oV 8 (.bld [.nl 5,.nl 3] []),
  oV 9 (.mv (.t 1)),
  ⟨none,.sto (.t 4) 0 15 0 2 (.t 8)⟩,
  oV 5 (.mv (.t 9))] [8,9]
abbrev zVf:HCode:=oQ [oD 0 false (oV 10 (.ldR (.t 2) 1 true)),
  oD 1 false (oC 11 zCB [(.t 10,.v)]),
  oD 2 false (oV 12 (.ldR (.t 2) 1 true)),
  oD 3 true (oC 13 zCQ [(.t 12,.v)]),
  oD 4 false (oV 14 (.bld [.nl 5,.nl 3] [(0,1,.t 11),(1,1,.t 13)])),
  oD 5 false ⟨none,.sto (.t 4) 0 15 0 2 (.t 14)⟩,
  oD 6 false (oV 5 (.mv (.c (iv 0))))] [10,11,12,13,14]
abbrev yBB:HCode:=(.seq zVc (.seq (.seq zVd (.cond (.t 7) (.seq zVe .ret) .skip)) (.seq zVf .ret)))
abbrev zLz:Env:={N:=15,Γ:=[(15,2)],L:=17,nfix:=0}
abbrev ref_PageOf_R:List RSrc:=[.cellB 4 0 15 0 2 true,.tmp 5]
theorem zVg:zBV Tryz.prog zCF yBB zLz ref_PageOf_R:=by kernel_rfl
abbrev zMA:HCode:=oN [oV 2 (.boxF (.t 0)),
  oV 3 (.boxF (.t 1)),
  oV 4 (.mv (.c (bv false)))]
abbrev zMB:HCode:=oR [oV 5 (.fldR (.t 2) 0 1),
  oV 6 (.ldR (.t 5) 1 true),
  oV 7 (.fldR (.t 3) 0 1),
  oV 8 (.ldR (.t 7) 1 true),
  oC 9 zEr [(.t 6,.v),(.t 8,.v)],
  oV 10 (.mv (.t 9)),
  oG 10 true 11 (.fldR (.t 2) 1 1),
  oG 10 true 12 (.ldR (.t 11) 1 false),
  oG 10 true 13 (.fldR (.t 3) 1 1),
  oG 10 true 14 (.ldR (.t 13) 1 false),
  ⟨some (10,true),.call (some 15) zBN [(.t 12,.v),(.t 14,.v)]⟩,
  oV 16 (.pick (.t 10) (.t 15) (.c (bv false))),
  oV 4 (.mv (.t 16))] [5,6,7,8,9,10,11,12,13,14,15,16]
abbrev zVh:HCode:=(.seq zMA (.seq zMB .ret))
abbrev zHs:Env:={N:=17,Γ:=[],L:=17,nfix:=0}
abbrev ref_SamePages_R:List RSrc:=[.tmp 4]
theorem zMC:zBV Tryz.prog zBH zVh zHs ref_SamePages_R:=by kernel_rfl
abbrev zXb:HCode:=oN [oV 1 (.boxF (.t 0)),
  ⟨none,.alloc 2 0 45 [.nl 5,.nl 3]⟩,
  oV 3 (.mv (.c (iv 0)))]
abbrev zXc:HCode:=oR [oV 10 (.ldR (.t 1) 1 true),
  oC 11 zDM [(.t 10,.v)],
  oV 9 (.mv (.t 11)),
  oV 12 (.ext 9 0),
  oV 13 (.ext 9 1),
  oV 4 (.mv (.t 12)),
  oV 5 (.mv (.t 13))] [9,10,11,12,13]
abbrev zXd:HCode:=oR [oV 14 (.mv (.t 5)),
  oV 15 (.ints .neq (.t 14) (.c (iv 0)))] [14]
abbrev zXe:HCode:=oR [oV 16 (.bld [.nl 5,.nl 3] []),
  oV 17 (.mv (.t 5)),
  ⟨none,.sto (.t 2) 0 45 0 2 (.t 16)⟩,
  oV 3 (.mv (.t 17))] [16,17]
abbrev zXf:HCode:=oR [oV 18 (.mv (.t 4)),
  oV 19 (.bld [.nl 5,.nl 3] [(1,1,.t 18)]),
  ⟨none,.alloc 6 1 47 [.nl 5,.nl 3]⟩,
  ⟨none,.sto (.t 6) 1 47 0 2 (.t 19)⟩] [18,19]
abbrev zXg:HCode:=oR [oV 20 (.fldR (.t 1) 0 1),
  oV 21 (.ldR (.t 20) 1 false),
  oV 22 (.len false (.t 21)),
  oV 23 (.mv (.c (iv 0)))] [20]
abbrev zXh:HCode:=oN [oV 24 (.ints .lss (.t 23) (.t 22))]
abbrev zXi:HCode:=oR [oV 25 (.idxA 5 (.t 21) (.t 23)),
  oV 26 (.ldR (.t 25) 5 true),
  ⟨none,.alloc 8 2 49 [.v (.int .i64 0),.v (mkS []),.v (mkS []),.nl 1,.nl 2]⟩,
  ⟨none,.sto (.t 8) 2 49 0 5 (.t 26)⟩] [25,26]
abbrev zXj:HCode:=oQ [oD 0 false (oV 27 (.fldP (.t 8) 3)),
  oD 1 false (oV 28 (.ldB (.t 27) 2 49 3 1 false)),
  oD 2 false (oC 29 zA1 [(.t 28,.v)]),
  oD 3 false (oV 30 (.fldP (.t 8) 4)),
  oD 4 false (oV 31 (.ldB (.t 30) 2 49 4 1 false)),
  oD 5 false (oC 32 zBg [(.t 31,.v)]),
  oD 6 false (oV 33 (.fldP (.t 8) 3)),
  oD 7 false ⟨none,.sto (.t 33) 2 49 3 1 (.t 29)⟩,
  oD 8 false (oV 34 (.fldP (.t 8) 4)),
  oD 9 false ⟨none,.sto (.t 34) 2 49 4 1 (.t 32)⟩] [27,28,29,30,31,32,33,34]
abbrev zXk:HCode:=oR [oV 35 (.fldP (.t 6) 0),
  oV 36 (.fldP (.t 35) 0),
  ⟨none,.ldo 37 (.t 36) 1 47 0 zAz 5⟩,
  oV 38 (.ldB (.t 8) 2 49 0 5 true),
  oV 39 (.bslF 5 [.t 38]),
  ⟨none,.app 40 zAz 5 (.t 37) (.t 39)⟩,
  oV 41 (.fldP (.t 6) 0),
  oV 42 (.fldP (.t 41) 0),
  ⟨none,.stw (.t 42) 1 47 0 40⟩] [35,36,37,38,39,40,41,42]
abbrev zVi:HCode:=oR [oV 43 (.ints .add (.t 23) (.c (iv 1))),
  oV 23 (.mv (.t 43))] [43]
abbrev zVj:HCode:=oR [oV 44 (.ldB (.t 6) 1 47 0 2 true),
  ⟨none,.sto (.t 2) 0 45 0 2 (.t 44)⟩,
  oV 3 (.mv (.c (iv 0)))] [44]
abbrev yCM:HCode:=(.seq zXb (.seq zXc (.seq (.seq zXd (.cond (.t 15) (.seq zXe .ret) .skip)) (.seq zXf (.seq (.seq zXg (.block 0 (.loop (.seq zXh (.seq (.cond (.t 24) .skip (.exit 0)) (.seq (.block 1 (.seq zXi (.seq zXj zXk))) zVi)))))) (.seq zVj .ret))))))
abbrev zPB:Env:={N:=45,Γ:=[(45,2),(47,2),(49,5)],L:=54,nfix:=0}
abbrev live_Open_R:List RSrc:=[.cellB 2 0 45 0 2 true,.tmp 3]
theorem zXl:zBV Tryz.prog zDY yCM zPB live_Open_R:=by kernel_rfl
abbrev zPC:HCode:=oN [oV 2 (.boxF (.t 0)),
  ⟨none,.alloc 4 0 30 [.nl 5,.nl 3]⟩,
  oV 5 (.mv (.c (iv 0)))]
abbrev zPD:HCode:=oR [oV 9 (.ldR (.t 2) 2 true),
  oC 10 zF3 [(.t 9,.v)],
  oV 6 (.mv (.t 10))] [9,10]
abbrev zPE:HCode:=oR [oV 11 (.mv (.t 6)),
  oV 12 (.ints .neq (.t 11) (.c (iv 0)))] [11]
abbrev zPF:HCode:=oR [oV 13 (.bld [.nl 5,.nl 3] []),
  oV 14 (.mv (.t 6)),
  ⟨none,.sto (.t 4) 0 30 0 2 (.t 13)⟩,
  oV 5 (.mv (.t 14))] [13,14]
abbrev zPG:HCode:=oR [oV 16 (.mv (.t 1)),
  oV 17 (.fldR (.t 2) 0 1),
  oV 18 (.ldR (.t 17) 1 true),
  ⟨none,.callv (some 19) (.t 16) [(.t 18,.v)]⟩,
  oV 15 (.mv (.t 19)),
  oV 20 (.ext 15 0),
  oV 21 (.ext 15 1),
  ⟨none,.alloc 7 1 32 [.nl 5]⟩,
  ⟨none,.sto (.t 7) 1 32 0 1 (.t 20)⟩,
  oV 8 (.mv (.t 21))] [15,16,17,18,19,20,21]
abbrev zPH:HCode:=oR [oV 22 (.mv (.t 8)),
  oV 23 (.ints .neq (.t 22) (.c (iv 0)))] [22]
abbrev zPI:HCode:=oR [oV 24 (.bld [.nl 5,.nl 3] []),
  oV 25 (.mv (.t 8)),
  ⟨none,.sto (.t 4) 0 30 0 2 (.t 24)⟩,
  oV 5 (.mv (.t 25))] [24,25]
abbrev zPJ:HCode:=oR [oV 26 (.ldB (.t 7) 1 32 0 1 true),
  oC 27 zDY [(.t 26,.v)],
  oV 28 (.ext 27 0),
  oV 29 (.ext 27 1),
  ⟨none,.sto (.t 4) 0 30 0 2 (.t 28)⟩,
  oV 5 (.mv (.t 29))] [26,27,28,29]
abbrev zXm:HCode:=(.seq zPC (.seq (.seq zPD (.seq zPE (.cond (.t 12) (.seq zPF .ret) .skip))) (.seq zPG (.seq (.seq zPH (.cond (.t 23) (.seq zPI .ret) .skip)) (.seq zPJ .ret)))))
abbrev zIi:Env:={N:=30,Γ:=[(30,2),(32,1)],L:=33,nfix:=0}
abbrev live_changed_R:List RSrc:=[.cellB 4 0 30 0 2 true,.tmp 5]
theorem zPK:zBV Tryz.prog zCu zXm zIi live_changed_R:=by kernel_rfl
abbrev zRK:HCode:=oN [oV 4 (.boxF (.t 0)),
  oV 5 (.boxF (.t 1)),
  oV 6 (.boxF (.t 2)),
  oV 7 (.boxF (.t 3)),
  ⟨none,.alloc 8 0 15 [.nl 5,.nl 3]⟩,
  oV 9 (.mv (.c (iv 0)))]
abbrev zRL:HCode:=oR [oV 10 (.ldR (.t 4) 2 true),
  oV 11 (.mkf zCV [.t 5,.t 6,.t 7]),
  oC 12 zCu [(.t 10,.v),(.t 11,.v)],
  oV 13 (.ext 12 0),
  oV 14 (.ext 12 1),
  ⟨none,.sto (.t 8) 0 15 0 2 (.t 13)⟩,
  oV 9 (.mv (.t 14))] [10,11,12,13,14]
abbrev zZa:HCode:=(.seq zRK (.seq zRL .ret))
abbrev zKf:Env:={N:=15,Γ:=[(15,2)],L:=17,nfix:=0}
abbrev live_Insert_R:List RSrc:=[.cellB 8 0 15 0 2 true,.tmp 9]
theorem zRM:zBV Tryz.prog zDO zZa zKf live_Insert_R:=by kernel_rfl
abbrev zMD:HCode:=oN [oV 4 (.boxF (.t 0)),
  ⟨none,.alloc 5 0 14 [.nl 5]⟩,
  oV 6 (.mv (.c (iv 0)))]
abbrev zME:HCode:=oR [oV 7 (.ldR (.t 4) 1 true),
  oV 8 (.ldR (.t 1) 1 false),
  oV 9 (.ldR (.t 2) 1 false),
  oV 10 (.ldR (.t 3) 1 true),
  oC 11 zF0 [(.t 7,.v),(.t 8,.v),(.t 9,.v),(.t 10,.v)],
  oV 12 (.ext 11 0),
  oV 13 (.ext 11 1),
  ⟨none,.sto (.t 5) 0 14 0 1 (.t 12)⟩,
  oV 6 (.mv (.t 13))] [7,8,9,10,11,12,13]
abbrev zVk:HCode:=(.seq zMD (.seq zME .ret))
abbrev zHt:Env:={N:=14,Γ:=[(14,1)],L:=15,nfix:=0}
abbrev live_Insert_1_R:List RSrc:=[.cellB 5 0 14 0 1 true,.tmp 6]
theorem zMF:zBV Tryz.prog zCV zVk zHt live_Insert_1_R:=by kernel_rfl
abbrev zRN:HCode:=oN [oV 2 (.boxF (.t 0)),
  oV 3 (.boxF (.t 1)),
  ⟨none,.alloc 4 0 11 [.nl 5,.nl 3]⟩,
  oV 5 (.mv (.c (iv 0)))]
abbrev zRO:HCode:=oR [oV 6 (.ldR (.t 2) 2 true),
  oV 7 (.mkf zCW [.t 3]),
  oC 8 zCu [(.t 6,.v),(.t 7,.v)],
  oV 9 (.ext 8 0),
  oV 10 (.ext 8 1),
  ⟨none,.sto (.t 4) 0 11 0 2 (.t 9)⟩,
  oV 5 (.mv (.t 10))] [6,7,8,9,10]
abbrev zZb:HCode:=(.seq zRN (.seq zRO .ret))
abbrev zKg:Env:={N:=11,Γ:=[(11,2)],L:=13,nfix:=0}
abbrev live_Remove_R:List RSrc:=[.cellB 4 0 11 0 2 true,.tmp 5]
theorem zRP:zBV Tryz.prog zDP zZb zKg live_Remove_R:=by kernel_rfl
abbrev zMG:HCode:=oN [oV 2 (.boxF (.t 0)),
  ⟨none,.alloc 3 0 10 [.nl 5]⟩,
  oV 4 (.mv (.c (iv 0)))]
abbrev zMH:HCode:=oR [oV 5 (.ldR (.t 2) 1 true),
  oV 6 (.ldR (.t 1) 1 false),
  oC 7 zF1 [(.t 5,.v),(.t 6,.v)],
  oV 8 (.ext 7 0),
  oV 9 (.ext 7 1),
  ⟨none,.sto (.t 3) 0 10 0 1 (.t 8)⟩,
  oV 4 (.mv (.t 9))] [5,6,7,8,9]
abbrev zVl:HCode:=(.seq zMG (.seq zMH .ret))
abbrev zHu:Env:={N:=10,Γ:=[(10,1)],L:=11,nfix:=0}
abbrev live_Remove_1_R:List RSrc:=[.cellB 3 0 10 0 1 true,.tmp 4]
theorem zMI:zBV Tryz.prog zCW zVl zHu live_Remove_1_R:=by kernel_rfl
abbrev zZc:HCode:=oN [oV 3 (.boxF (.t 0)),
  oV 4 (.boxF (.t 1)),
  oV 5 (.boxF (.t 2)),
  ⟨none,.alloc 6 0 13 [.nl 5,.nl 3]⟩,
  oV 7 (.mv (.c (iv 0)))]
abbrev zZd:HCode:=oR [oV 8 (.ldR (.t 3) 2 true),
  oV 9 (.mkf zEk [.t 4,.t 5]),
  oC 10 zCu [(.t 8,.v),(.t 9,.v)],
  oV 11 (.ext 10 0),
  oV 12 (.ext 10 1),
  ⟨none,.sto (.t 6) 0 13 0 2 (.t 11)⟩,
  oV 7 (.mv (.t 12))] [8,9,10,11,12]
abbrev yEg:HCode:=(.seq zZc (.seq zZd .ret))
abbrev zSp:Env:={N:=13,Γ:=[(13,2)],L:=15,nfix:=0}
abbrev live_Put_R:List RSrc:=[.cellB 6 0 13 0 2 true,.tmp 7]
theorem zZe:zBV Tryz.prog zF7 yEg zSp live_Put_R:=by kernel_rfl
abbrev zVm:HCode:=oN [oV 3 (.boxF (.t 0)),
  ⟨none,.alloc 4 0 12 [.nl 5]⟩,
  oV 5 (.mv (.c (iv 0)))]
abbrev zVn:HCode:=oR [oV 6 (.ldR (.t 3) 1 true),
  oV 7 (.ldR (.t 1) 1 false),
  oV 8 (.ldR (.t 2) 5 true),
  oC 9 zKQ [(.t 6,.v),(.t 7,.v),(.t 8,.v)],
  oV 10 (.ext 9 0),
  oV 11 (.ext 9 1),
  ⟨none,.sto (.t 4) 0 12 0 1 (.t 10)⟩,
  oV 5 (.mv (.t 11))] [6,7,8,9,10,11]
abbrev yBC:HCode:=(.seq zVm (.seq zVn .ret))
abbrev zLA:Env:={N:=12,Γ:=[(12,1)],L:=13,nfix:=0}
abbrev live_Put_1_R:List RSrc:=[.cellB 4 0 12 0 1 true,.tmp 5]
theorem zVo:zBV Tryz.prog zEk yBC zLA live_Put_1_R:=by kernel_rfl
abbrev zZf:HCode:=oN [⟨none,.alloc 0 0 9 [.nl 5,.nl 3]⟩]
abbrev zZg:HCode:=oR [oC 4 zGM [],
  oC 5 zDY [(.t 4,.v)],
  oV 3 (.mv (.t 5)),
  oV 6 (.ext 3 0),
  oV 7 (.ext 3 1),
  ⟨none,.alloc 1 1 11 [.nl 5,.nl 3]⟩,
  ⟨none,.sto (.t 1) 1 11 0 2 (.t 6)⟩,
  oV 2 (.mv (.t 7))] [2,3,4,5,6,7]
abbrev zZh:HCode:=oR [oV 8 (.ldB (.t 1) 1 11 0 2 true),
  ⟨none,.sto (.t 0) 0 9 0 2 (.t 8)⟩] [8]
abbrev yEh:HCode:=(.seq zZf (.seq zZg (.seq zZh .ret)))
abbrev zSq:Env:={N:=9,Γ:=[(9,2),(11,2)],L:=13,nfix:=0}
abbrev law_page_R:List RSrc:=[.cellB 0 0 9 0 2 true]
theorem zZi:zBV Tryz.prog zI2 yEh zSq law_page_R:=by kernel_rfl
abbrev zMJ:HCode:=oN [oV 0 (.mv (.c (bv false)))]
abbrev zMK:HCode:=.reg [oC 8 zI2 [],
  oC 9 zDP [(.t 8,.v),(.c (iv 2),.v)],
  oV 7 (.mv (.t 9)),
  oV 10 (.ext 7 0),
  oV 11 (.ext 7 1),
  ⟨none,.alloc 1 0 72 [.nl 5,.nl 3]⟩,
  ⟨none,.sto (.t 1) 0 72 0 2 (.t 10)⟩,
  oV 2 (.mv (.t 11))] false [.frz 0 72 2,.forget [7,8,9,10,11]]
abbrev zML:HCode:=.reg [oV 13 (.ldR (.t 1) 2 true),
  oV 14 (.bld [.v (.int .i64 0),.v (mkS []),.v (mkS []),.nl 1,.nl 2] [(0,1,.c (iv (-1))),(1,1,.c (sv [120]))]),
  oV 15 (.bslF 5 [.t 14]),
  oV 16 (.bld [.nl 5] [(0,1,.t 15)]),
  oC 17 zDO [(.t 13,.v),(.c (iv 0),.v),(.c (iv 2),.v),(.t 16,.v)],
  oV 12 (.mv (.t 17)),
  oV 18 (.ext 12 0),
  oV 19 (.ext 12 1),
  ⟨none,.alloc 3 1 74 [.nl 5,.nl 3]⟩,
  ⟨none,.sto (.t 3) 1 74 0 2 (.t 18)⟩,
  oV 4 (.mv (.t 19))] false [.frz 1 74 2,.forget [12,13,14,15,16,17,18,19]]
abbrev zMM:HCode:=.reg [oV 21 (.ldR (.t 3) 2 true),
  oV 22 (.bld [.v (.int .i64 0),.v (mkS []),.v (mkS []),.nl 1,.nl 2] [(1,1,.c (sv [121]))]),
  oC 23 zF7 [(.t 21,.v),(.c (iv 3),.v),(.t 22,.v)],
  oV 20 (.mv (.t 23)),
  oV 24 (.ext 20 0),
  oV 25 (.ext 20 1),
  ⟨none,.alloc 5 2 76 [.nl 5,.nl 3]⟩,
  ⟨none,.sto (.t 5) 2 76 0 2 (.t 24)⟩,
  oV 6 (.mv (.t 25))] false [.frz 2 76 2,.forget [20,21,22,23,24,25]]
abbrev zMN:HCode:=oQ [oD 0 false (oV 26 (.mv (.t 2))),
  oD 1 false (oV 27 (.ints .eql (.t 26) (.c (iv 0)))),
  oD 2 false (oV 28 (.mv (.t 27))),
  oD 3 false (oG 28 true 29 (.mv (.t 4))),
  oD 4 false (oG 28 true 30 (.ints .eql (.t 29) (.c (iv 0)))),
  oD 5 false (oV 31 (.pick (.t 28) (.t 30) (.c (bv false)))),
  oD 6 false (oV 32 (.mv (.t 31))),
  oD 7 false (oG 32 true 33 (.mv (.t 6))),
  oD 8 false (oG 32 true 34 (.ints .eql (.t 33) (.c (iv 0)))),
  oD 9 false (oV 35 (.pick (.t 32) (.t 34) (.c (bv false)))),
  oD 10 false (oV 36 (.mv (.t 35))),
  oD 11 false (oG 36 true 37 (.fldR (.t 1) 1 1)),
  oD 12 false (oG 36 true 38 (.ldR (.t 37) 1 false)),
  oD 13 false (oG 36 true 39 (.len false (.t 38))),
  oD 14 false (oG 36 true 40 (.ints .eql (.t 39) (.c (iv 4)))),
  oD 15 false (oV 41 (.pick (.t 36) (.t 40) (.c (bv false)))),
  oD 16 false (oV 42 (.mv (.t 41))),
  oD 17 false (oG 42 true 43 (.fldR (.t 3) 1 1)),
  oD 18 false (oG 42 true 44 (.ldR (.t 43) 1 false)),
  oD 19 false (oG 42 true 45 (.len false (.t 44))),
  oD 20 false (oG 42 true 46 (.ints .eql (.t 45) (.c (iv 5)))),
  oD 21 false (oV 47 (.pick (.t 42) (.t 46) (.c (bv false)))),
  oD 22 false (oV 48 (.mv (.t 47))),
  oD 23 false (oG 48 true 49 (.fldR (.t 5) 0 1)),
  oD 24 false (oG 48 true 50 (.fldR (.t 49) 0 1)),
  oD 25 false (oG 48 true 51 (.ldR (.t 50) 1 false)),
  oD 26 false (oG 48 true 52 (.len false (.t 51))),
  oD 27 false (oG 48 true 53 (.ints .eql (.t 52) (.c (iv 4)))),
  oD 28 false (oV 54 (.pick (.t 48) (.t 53) (.c (bv false)))),
  oD 29 false (oV 55 (.mv (.t 54))),
  oD 30 false (oG 55 true 56 (.fldR (.t 5) 0 1)),
  oD 31 false (oG 55 true 57 (.fldR (.t 56) 0 1)),
  oD 32 false (oG 55 true 58 (.ldR (.t 57) 1 false)),
  oD 33 false (oG 55 true 59 (.idxA 5 (.t 58) (.c (iv 3)))),
  oD 34 false (oG 55 true 60 (.fldR (.t 59) 1 1)),
  oD 35 false (oG 55 true 61 (.ldR (.t 60) 1 false)),
  oD 36 false (oG 55 true 62 (.strs .eql (.t 61) (.c (sv [121])))),
  oD 37 false (oV 63 (.pick (.t 55) (.t 62) (.c (bv false)))),
  oD 38 false (oV 64 (.mv (.t 63))),
  oD 39 false (oG 64 true 65 (.fldR (.t 5) 1 1)),
  oD 40 false (oG 64 true 66 (.ldR (.t 65) 1 false)),
  oD 41 false (oG 64 true 67 (.fldR (.t 5) 0 1)),
  oD 42 false (oG 64 true 68 (.ldR (.t 67) 1 true)),
  oD 43 true ⟨some (64,true),.call (some 69) zCQ [(.t 68,.v)]⟩,
  oD 44 true ⟨some (64,true),.call (some 70) zBN [(.t 66,.v),(.t 69,.v)]⟩,
  oD 45 false (oV 71 (.pick (.t 64) (.t 70) (.c (bv false)))),
  oD 46 false (oV 0 (.mv (.t 71)))] [26,27,28,29,30,31,32,33,34,35,36,37,38,39,40,41,42,43,44,45,46,47,48,49,50,51,52,53,54,55,56,57,58,59,60,61,62,63,64,65,66,67,68,69,70,71]
abbrev zVp:HCode:=(.seq zMJ (.seq zMK (.seq zML (.seq zMM (.seq zMN .ret)))))
abbrev zHv:Env:={N:=72,Γ:=[(72,2),(74,2),(76,2)],L:=78,nfix:=0}
abbrev law_liveBegun_R:List RSrc:=[.tmp 0]
theorem zMO:zBV Tryz.prog zD8 zVp zHv law_liveBegun_R:=by kernel_rfl
abbrev zKh:HCode:=oN [oV 6 (.boxF (.t 0)),
  oV 9 (.boxF (.t 3)),
  oV 11 (.boxF (.t 5)),
  oV 12 (.mv (.c (bv false)))]
abbrev zKi:HCode:=oR [oV 31 (.fldR (.t 6) 0 1),
  oV 32 (.ldR (.t 31) 1 true),
  oC 33 zDY [(.t 32,.v)],
  oV 30 (.mv (.t 33)),
  oV 34 (.ext 30 0),
  oV 35 (.ext 30 1),
  ⟨none,.alloc 13 0 147 [.nl 5,.nl 3]⟩,
  ⟨none,.sto (.t 13) 0 147 0 2 (.t 34)⟩,
  oV 14 (.mv (.t 35))] [30,31,32,33,34,35]
abbrev zKj:HCode:=oR [oV 37 (.ldR (.t 6) 2 true),
  oV 38 (.mv (.t 1)),
  oV 39 (.mv (.t 2)),
  oV 40 (.ldR (.t 9) 1 true),
  oC 41 zDO [(.t 37,.v),(.t 38,.v),(.t 39,.v),(.t 40,.v)],
  oV 36 (.mv (.t 41)),
  oV 42 (.ext 36 0),
  oV 43 (.ext 36 1),
  ⟨none,.alloc 15 1 149 [.nl 5,.nl 3]⟩,
  ⟨none,.sto (.t 15) 1 149 0 2 (.t 42)⟩,
  oV 16 (.mv (.t 43))] [36,37,38,39,40,41,42,43]
abbrev zKk:HCode:=oR [oV 45 (.ldR (.t 6) 2 true),
  oV 46 (.mv (.t 4)),
  oC 47 zDP [(.t 45,.v),(.t 46,.v)],
  oV 44 (.mv (.t 47)),
  oV 48 (.ext 44 0),
  oV 49 (.ext 44 1),
  ⟨none,.alloc 17 2 151 [.nl 5,.nl 3]⟩,
  ⟨none,.sto (.t 17) 2 151 0 2 (.t 48)⟩,
  oV 18 (.mv (.t 49))] [44,45,46,47,48,49]
abbrev zKl:HCode:=oR [oV 51 (.ldR (.t 6) 2 true),
  oV 52 (.mv (.t 4)),
  oV 53 (.ldR (.t 11) 5 true),
  oC 54 zF7 [(.t 51,.v),(.t 52,.v),(.t 53,.v)],
  oV 50 (.mv (.t 54)),
  oV 55 (.ext 50 0),
  oV 56 (.ext 50 1),
  ⟨none,.alloc 19 3 153 [.nl 5,.nl 3]⟩,
  ⟨none,.sto (.t 19) 3 153 0 2 (.t 55)⟩,
  oV 20 (.mv (.t 56))] [50,51,52,53,54,55,56]
abbrev zKm:HCode:=oQ [oD 0 false (oV 58 (.fldR (.t 6) 0 1)),
  oD 1 false (oV 59 (.ldR (.t 58) 1 true)),
  oD 2 false (oV 60 (.fldR (.t 6) 0 1)),
  oD 3 false (oV 61 (.ldR (.t 60) 1 true)),
  oD 4 false (oC 62 zBy [(.t 61,.v)]),
  oD 5 false (oC 63 zCF [(.t 59,.v),(.t 62,.v)]),
  oD 6 false (oV 57 (.mv (.t 63))),
  oD 7 false (oV 64 (.ext 57 0)),
  oD 8 false (oV 65 (.ext 57 1)),
  oD 9 false ⟨none,.alo 21 4 155 [.nl 5,.nl 3]⟩,
  oD 10 false ⟨none,.sto (.t 21) 4 155 0 2 (.t 64)⟩,
  oD 11 false (oV 22 (.mv (.t 65)))] [57,58,59,60,61,62,63,64,65]
abbrev zKn:HCode:=oR [oV 66 (.ldR (.t 6) 2 true),
  oC 67 zD5 [(.t 66,.v)],
  oV 23 (.mv (.t 67))] [66,67]
abbrev zKo:HCode:=oN [⟨none,.alloc 24 5 157 [.nl 5,.nl 3]⟩,
  ⟨none,.alloc 25 6 159 [.nl 5,.nl 3]⟩,
  ⟨none,.alloc 26 7 161 [.nl 5,.nl 3]⟩]
abbrev zKp:HCode:=oR [oV 68 (.mv (.t 23)),
  oV 69 (.mv (.t 23)),
  oV 70 (.mv (.t 23)),
  oV 27 (.mv (.t 68)),
  oV 28 (.mv (.t 69)),
  oV 29 (.mv (.t 70))] [68,69,70]
abbrev zKq:HCode:=oR [oV 71 (.mv (.t 23)),
  oV 72 (.ints .eql (.t 71) (.c (iv 0)))] [71]
abbrev zI3:HCode:=oR [oV 74 (.fldR (.t 6) 0 1),
  oV 75 (.ldR (.t 74) 1 true),
  oV 76 (.mv (.t 1)),
  oV 77 (.mv (.t 2)),
  oV 78 (.ldR (.t 9) 1 true),
  oC 79 zD7 [(.t 75,.v),(.t 76,.v),(.t 77,.v),(.t 78,.v)],
  oV 80 (.ext 79 0),
  oV 81 (.ext 79 1),
  oC 82 zCF [(.t 80,.v),(.t 81,.v)],
  oV 73 (.mv (.t 82)),
  oV 83 (.ext 73 0),
  oV 84 (.ext 73 1),
  ⟨none,.sto (.t 24) 5 157 0 2 (.t 83)⟩,
  oV 27 (.mv (.t 84))] [73,74,75,76,77,78,79,80,81,82,83,84]
abbrev zI4:HCode:=oR [oV 86 (.fldR (.t 6) 0 1),
  oV 87 (.ldR (.t 86) 1 true),
  oV 88 (.mv (.t 4)),
  oC 89 zCT [(.t 87,.v),(.t 88,.v)],
  oV 90 (.ext 89 0),
  oV 91 (.ext 89 1),
  oC 92 zCF [(.t 90,.v),(.t 91,.v)],
  oV 85 (.mv (.t 92)),
  oV 93 (.ext 85 0),
  oV 94 (.ext 85 1),
  ⟨none,.sto (.t 25) 6 159 0 2 (.t 93)⟩,
  oV 28 (.mv (.t 94))] [85,86,87,88,89,90,91,92,93,94]
abbrev zI5:HCode:=oR [oV 96 (.fldR (.t 6) 0 1),
  oV 97 (.ldR (.t 96) 1 true),
  oV 98 (.mv (.t 4)),
  oV 99 (.ldR (.t 11) 5 true),
  oC 100 zEj [(.t 97,.v),(.t 98,.v),(.t 99,.v)],
  oV 101 (.ext 100 0),
  oV 102 (.ext 100 1),
  oC 103 zCF [(.t 101,.v),(.t 102,.v)],
  oV 95 (.mv (.t 103)),
  oV 104 (.ext 95 0),
  oV 105 (.ext 95 1),
  ⟨none,.sto (.t 26) 7 161 0 2 (.t 104)⟩,
  oV 29 (.mv (.t 105))] [95,96,97,98,99,100,101,102,103,104,105]
abbrev zI6:HCode:=oR [oC 106 zD8 [],
  oV 107 (.mv (.t 106)),
  oG 107 true 108 (.mv (.t 14)),
  oG 107 true 109 (.mv (.t 22)),
  oG 107 true 110 (.ints .eql (.t 108) (.t 109)),
  oV 111 (.pick (.t 107) (.t 110) (.c (bv false))),
  oV 112 (.mv (.t 111)),
  oG 112 true 113 (.mv (.t 16)),
  oG 112 true 114 (.mv (.t 27)),
  oG 112 true 115 (.ints .eql (.t 113) (.t 114)),
  oV 116 (.pick (.t 112) (.t 115) (.c (bv false))),
  oV 117 (.mv (.t 116)),
  oG 117 true 118 (.mv (.t 18)),
  oG 117 true 119 (.mv (.t 28)),
  oG 117 true 120 (.ints .eql (.t 118) (.t 119)),
  oV 121 (.pick (.t 117) (.t 120) (.c (bv false))),
  oV 122 (.mv (.t 121)),
  oG 122 true 123 (.mv (.t 20)),
  oG 122 true 124 (.mv (.t 29)),
  oG 122 true 125 (.ints .eql (.t 123) (.t 124)),
  oV 126 (.pick (.t 122) (.t 125) (.c (bv false))),
  oV 127 (.mv (.t 126)),
  oG 127 true 128 (.ldB (.t 13) 0 147 0 2 true),
  oG 127 true 129 (.ldB (.t 21) 4 155 0 2 true),
  ⟨some (127,true),.call (some 130) zBH [(.t 128,.v),(.t 129,.v)]⟩,
  oV 131 (.pick (.t 127) (.t 130) (.c (bv false))),
  oV 132 (.mv (.t 131)),
  oG 132 true 133 (.ldB (.t 15) 1 149 0 2 true),
  oG 132 true 134 (.ldB (.t 24) 5 157 0 2 true),
  ⟨some (132,true),.call (some 135) zBH [(.t 133,.v),(.t 134,.v)]⟩,
  oV 136 (.pick (.t 132) (.t 135) (.c (bv false))),
  oV 137 (.mv (.t 136)),
  oG 137 true 138 (.ldB (.t 17) 2 151 0 2 true),
  oG 137 true 139 (.ldB (.t 25) 6 159 0 2 true),
  ⟨some (137,true),.call (some 140) zBH [(.t 138,.v),(.t 139,.v)]⟩,
  oV 141 (.pick (.t 137) (.t 140) (.c (bv false))),
  oV 142 (.mv (.t 141)),
  oG 142 true 143 (.ldB (.t 19) 3 153 0 2 true),
  oG 142 true 144 (.ldB (.t 26) 7 161 0 2 true),
  ⟨some (142,true),.call (some 145) zBH [(.t 143,.v),(.t 144,.v)]⟩,
  oV 146 (.pick (.t 142) (.t 145) (.c (bv false))),
  oV 12 (.mv (.t 146))] [106,107,108,109,110,111,112,113,114,115,116,117,118,119,120,121,122,123,124,125,126,127,128,129,130,131,132,133,134,135,136,137,138,139,140,141,142,143,144,145,146]
abbrev zPL:HCode:=(.seq zKh (.seq zKi (.seq zKj (.seq zKk (.seq zKl (.seq zKm (.seq zKn (.seq zKo (.seq zKp (.seq (.seq zKq (.cond (.t 72) (.seq zI3 (.seq zI4 zI5)) .skip)) (.seq zI6 .ret)))))))))))
abbrev zDJ:Env:={N:=147,Γ:=[(147,2),(149,2),(151,2),(153,2),(155,2),(157,2),(159,2),(161,2)],L:=163,nfix:=0,una:=[155]}
abbrev law_LiveChanges_R:List RSrc:=[.tmp 12]
theorem zE1:zBV Tryz.prog zE0 zPL zDJ law_LiveChanges_R:=by kernel_rfl
end Go.Hx
end
