/-
  Walks of functions of the program over an abstract layer, and the laws that they use: each contract says what the function computes, for every input that its conditions let by. No other condition.
-/
import Derived.Test.YtjnagiaooecklabGreatDoorG19
import Derived.Test.YtjnagiaooecklabGreatDoorG29
import Derived.Test.YtjnagiaooecklabGreatDoorG14
set_option linter.all false
section
set_option maxRecDepth 100000
set_option linter.unusedSimpArgs false
namespace Go.Hx
open Go.Proofs
variable [Glob] [GlobL]
attribute [local go_sem] zAt zAp zAn zAj ndV zAq
attribute [local go_sem] reduceCtorEq Nat.reduceAdd Nat.reduceEqDiff reduceIte Nat.reduceLeDiff Nat.reduceLT Nat.reduceSub
theorem zIF (l:List Bys) (hl:l.length≤64):Contract Tryz.prog zCe [.val (.one (.sl 1 (zRd l)))] {res:=.own zHE 1 (zRd l)}:=by
 refine mkA zG8 (base:=0) (fo rfl) (fun hfit=>?_)
 unfold F0 zDR
 simp (maxSteps:=2000000) only [zAJ,List.set_cons_succ,List.set_cons_zero,List.map_cons,List.map_nil,zAH,zAa,ioOf,List.length_cons,List.length_nil,Nat.reduceAdd,Nat.reduceSub,List.replicate,List.cons_append,List.nil_append]
 try simp (maxSteps:=2000000) only [go_sem]
 repeat with_reducible refine zAb ?_
 intro b hb
 refine zAc (by rfl) trivial (fun h=>?_) (fun h=>?_)
 ·try simp (maxSteps:=2000000) only [go_sem]
  repeat with_reducible refine zAb ?_
  have:zRd l=[]:=by
   apply Classical.byContradiction
   intro h2;rw [hb h2] at h;cases h
  rw [this]
  exact zME rfl
 ·try simp (maxSteps:=2000000) only [go_sem]
  repeat with_reducible refine zAb ?_
  exact zME rfl
theorem zKE (l:List (Bys×Bys)) (hl:l.length≤64):Contract Tryz.prog zCD [.val (.one (.sl 2 (yAO l)))] {res:=.own zEA 2 (yAO l)}:=by
 refine mkA zIV (base:=0) (fo rfl) (fun hfit=>?_)
 unfold F0 zEB
 simp (maxSteps:=2000000) only [zAJ,List.set_cons_succ,List.set_cons_zero,List.map_cons,List.map_nil,zAH,zAa,ioOf,List.length_cons,List.length_nil,Nat.reduceAdd,Nat.reduceSub,List.replicate,List.cons_append,List.nil_append]
 try simp (maxSteps:=2000000) only [go_sem]
 repeat with_reducible refine zAb ?_
 intro b hb
 refine zAc (by rfl) trivial (fun h=>?_) (fun h=>?_)
 ·try simp (maxSteps:=2000000) only [go_sem]
  repeat with_reducible refine zAb ?_
  have:yAO l=[]:=by
   apply Classical.byContradiction
   intro h2;rw [hb h2] at h;cases h
  rw [this]
  exact zME rfl
 ·try simp (maxSteps:=2000000) only [go_sem]
  repeat with_reducible refine zAb ?_
  exact zME rfl
def yHM (x:Nd):Prop:=x.cls.length≤64∧x.att.length≤64
theorem yFv {l:List Nd} {i:Nat} (h:i < l.length):l.getD i default∈l:=by
 simp [h]
def sls (ls:List (List Nd)):List (List PV):=ls.map fun l=>[.sl 5 (zNz l)]
end Go.Hx
end

section
set_option maxRecDepth 100000
set_option linter.unusedSimpArgs false
namespace Go.Hx
open Go.Proofs
variable [Glob] [GlobL]
attribute [local go_sem] zAt zAp zAn zAj ndV zAq List.take_length
theorem yDZ (d:List Nd) (n:Nat):(zNz d).take n=zNz (d.take n):=by simp [zNz]
attribute [local go_sem] yDZ
theorem yD0 (d:List Nd) (n:Nat):(zNz d).drop n=zNz (d.drop n):=by simp [zNz]
attribute [local go_sem] yD0
theorem yHN {d:List Nd} {x:Nd} (h:x∈d):∃ i,i < d.length∧d.getD i default=x:=by
 obtain ⟨i,hi,e⟩:=List.getElem_of_mem h
 exact ⟨i,hi,by simp [hi,e]⟩
theorem yD1 {d:List Nd} (hd:zCS d d.length=true) (hl:d.length≤64) {x:Nd} (h:x∈d):yHM x∧-1000≤x.up∧x.up≤1000:=by
 obtain ⟨i,hi,rfl⟩:=yHN h
 have h1:=zDW (zGx hd hi)
 have h2:=zBh hd i hi
 simp only [zBc] at h2
 exact ⟨⟨by omega,by omega⟩,by omega,by omega⟩
end Go.Hx
end

section
set_option maxRecDepth 100000
set_option linter.unusedSimpArgs false
namespace Go.Hx
open Go.Proofs
variable [Glob] [GlobL]
attribute [local go_sem] zAt zAp zAn zAj ndV zAq atV OVal.cells zWm List.drop_succ_cons List.drop_zero List.take_succ_cons List.getD_nil yAN zGW Nat.sub_zero List.map_nil List.map_cons
attribute [local go_sem ↓] yG4 yG5
end Go.Hx
end
