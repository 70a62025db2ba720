/-
  Walks of functions of the program over an abstract layer, and the laws that they use: each contract says what the function computes, for every input that its conditions let by. No other condition.
-/
import Derived.Test.YtjnagiaooecklabGreatDoorG24
import Derived.Test.YtjnagiaooecklabGreatDoorG26
import Derived.Test.YtjnagiaooecklabGreatDoorG19
import Derived.Test.YtjnagiaooecklabGreatDoorG14
set_option linter.all false
section
set_option maxRecDepth 100000
set_option linter.unusedSimpArgs false
set_option maxHeartbeats 4000000
attribute [local go_sem] Go.Oper.semAt_some
namespace Go.Hx
open Go.Proofs Go.RowKit Go.Shelf
variable [Glob] [GlobL]
attribute [local go_sem] zAh zAm zAk zAg ndV zAr zAp zGH zBb zBD zBC
end Go.Hx
end

section
set_option maxRecDepth 100000
set_option linter.unusedSimpArgs false
set_option maxHeartbeats 4000000
namespace Go.Hx
open Go.Proofs Go.RowKit Go.Shelf
variable [Glob] [GlobL]
attribute [local go_sem] zAh zAm zAk zAg ndV zAr zAp zGH zBb zBD zBC
end Go.Hx
end

section
set_option maxRecDepth 100000
set_option linter.unusedSimpArgs false
set_option maxHeartbeats 4000000
namespace Go.Hx
open Go.Proofs
variable [Glob] [GlobL]
attribute [local go_sem] zAh zAm zAk zAg ndV zAr zAp zGH zBb zBD zBC
end Go.Hx
end

section
set_option maxRecDepth 100000
set_option linter.unusedSimpArgs false
set_option maxHeartbeats 4000000
namespace Go.Hx
open Go.Proofs
variable [Glob] [GlobL]
attribute [local go_sem] zAh zAm zAk zAg ndV zAr zAp zGH zBb zBD zBC List.take_nil
end Go.Hx
end

section
set_option maxRecDepth 100000
set_option linter.unusedSimpArgs false
set_option maxHeartbeats 4000000
namespace Go.Hx
open Go.Proofs
variable [Glob] [GlobL]
attribute [local go_sem] zAh zAm zAk zAg ndV zAr zAp zGH zBb zBD zBC List.take_nil
end Go.Hx
end

section
set_option maxRecDepth 100000
set_option linter.unusedSimpArgs false
namespace Go.Hx
open Go.Proofs
variable [Glob]
attribute [local go_sem] zAh zAm zAk zAg ndV zAr zBE zGH
attribute [local go_sem] reduceCtorEq Nat.reduceAdd Nat.reduceEqDiff reduceIte Nat.reduceLeDiff Nat.reduceLT Nat.reduceSub
def smallD:List Nd:=[
 {up:=-1,tag:=[108,105,115,116],id:=[116,111,112],cls:=[],att:=[]},
 {up:=0,tag:=[105,116,101,109],id:=[],cls:=[[97]],att:=[]},
 {up:=0,tag:=[105,116,101,109],id:=[],cls:=[[98]],att:=[]},
 {up:=2,tag:=[108,105,110,107],id:=[],cls:=[],att:=[([116,111],[111,110,101,32,116,119,111])]},
 {up:=0,tag:=[105,116,101,109],id:=[],cls:=[[97]],att:=[]}]
theorem zZo:Contract Tryz.prog zGM [] {res:=.val (zBE smallD)}:=by
 refine mkA zWN (base:=0) (fo rfl) (fun hfit=>?_)
 unfold F0 zOJ
 simp (maxSteps:=2000000) only [zAM,List.set_cons_succ,List.set_cons_zero,List.map_cons,List.map_nil,zAL,zAa,ioOf,List.length_cons,List.length_nil,Nat.reduceAdd,Nat.reduceSub,List.replicate,List.cons_append,List.nil_append]
 try simp (maxSteps:=2000000) only [go_sem]
 repeat with_reducible refine zAb ?_
 exact zCO rfl rfl rfl
end Go.Hx
end
