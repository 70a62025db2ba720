/-
  Walks of functions of the program: each contract says what the function computes, for every input that its conditions let by. No other condition.
-/
import Derived.Test.YtjnagiaooecklabGreatDoorG13
import Derived.Test.YtjnagiaooecklabGreatDoorG20
import Derived.Test.YtjnagiaooecklabGreatDoorG11
import Derived.Test.YtjnagiaooecklabGreatDoorG27
set_option linter.all false
set_option maxRecDepth 100000
set_option linter.unusedSimpArgs false
set_option maxHeartbeats 4000000
namespace Go.Hx
open Go.Proofs
variable [Glob] [GlobL]
attribute [local go_sem] zAh zAm zAk zAg ndV zAr zAp zB6 zBb
attribute [local go_sem] reduceCtorEq Nat.reduceAdd Nat.reduceEqDiff reduceIte Nat.reduceLeDiff Nat.reduceLT Nat.reduceSub
def zD6 (d:List Nd) (ix:List Ent):PVal:=.agg [.sl 5 (zDd d),.sl 3 (zCK ix)]
def zHr (d:List Nd) (ix:List Ent):Int:=if zAi d≠0 then zAi d else if zCo d==ix then 0 else 1
theorem zW6 (d:List Nd) (ix:List Ent):Contract Tryz.prog zF3 [.val (zD6 d ix)] {res:=.val (iv (zHr d ix))}:=by
 have hB:=zJ6 d
 have hE:=zYE (zCo d) ix
 unfold zHr zD6
 obtain ⟨e,he⟩:∃ e,e=zAi d:=⟨_,rfl⟩
 rw [←he] at hB ⊢
 unfold zBE at hB
 refine mkA zU2 (base:=0) (fo rfl) (fun hfit=>?_)
 unfold F0 zLx
 simp (maxSteps:=2000000) only [zAM,List.set_cons_succ,List.set_cons_zero,List.map_cons,List.map_nil,zAL,zAa,ioOf,List.length_cons,List.length_nil,Nat.reduceAdd,Nat.reduceSub,List.replicate,List.cons_append,List.nil_append]
 try simp (maxSteps:=2000000) only [go_sem]
 repeat with_reducible refine zAb ?_
 refine zAW (by repeat' constructor) (hB) ?_
 try simp (maxSteps:=2000000) only [go_sem]
 repeat with_reducible refine zAb ?_
 refine zAd (by rfl) trivial (fun h0=>?_) (fun h0=>?_)
 ·have h1:e≠0:=by simpa using h0
  rw [if_pos h1]
  try simp (maxSteps:=2000000) only [go_sem]
  repeat with_reducible refine zAb ?_
  exact zAj rfl trivial (.inl rfl)
 have h1:e=0:=by simpa using h0
 subst h1
 rw [if_neg (by decide)]
 try simp (maxSteps:=2000000) only [go_sem]
 repeat with_reducible refine zAb ?_
 refine zAq (by repeat' constructor) (hE) ?_
 try simp (maxSteps:=2000000) only [go_sem]
 repeat with_reducible refine zAb ?_
 refine zAd (by rfl) trivial (fun h2=>?_) (fun h2=>?_)
 ·have h3:(zCo d==ix)=false:=by simpa using h2
  rw [h3]
  try simp (maxSteps:=2000000) only [go_sem]
  repeat with_reducible refine zAb ?_
  exact zAj rfl trivial (.inl rfl)
 ·have h3:(zCo d==ix)=true:=by simpa using h2
  rw [h3]
  try simp (maxSteps:=2000000) only [go_sem]
  repeat with_reducible refine zAb ?_
  exact zAj rfl trivial (.inl rfl)
end Go.Hx
