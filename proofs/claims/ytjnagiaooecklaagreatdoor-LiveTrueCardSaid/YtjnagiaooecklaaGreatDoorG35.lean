/-
  What the laws over texts are told of the library's variable: it holds an int; a text off the memory, and its reading. No condition.
-/
import Derived.Test.YtjnagiaooecklaaGreatDoorG23
import Derived.Test.YtjnagiaooecklaaGreatDoorG34
set_option linter.all false
set_option linter.unusedVariables false
set_option maxRecDepth 100000
namespace Go.Hx
open Go.RowKit Go.ChangeShapes Go.WideShapes Go.WideElems Go.Proofs
def MaxIn (w:World):Prop:=∃ m:Int,w.cell? ⟨0,0,none⟩=some (.int .i64 m)
theorem MaxIn.size {w:World} (h:MaxIn w):1≤w.heap.size:=by
  obtain ⟨m,h⟩:=h
  unfold World.cell? at h
  cases hh:w.heap[0]? with
  | none=>simp [hh] at h
  | some o=>exact (Array.getElem?_eq_some_iff.1 hh).1
theorem MaxIn.keep {w w':World} (hk:∀ b,b < 1→w'.heap[b]?=w.heap[b]?) (h:MaxIn w):MaxIn w':=by
  obtain ⟨m,h⟩:=h
  refine ⟨m,?_⟩
  unfold World.cell? at h ⊢
  simp only at h ⊢
  rw [hk 0 (by omega)]
  exact h
@[reducible] def globMax:Glob:={ok:=MaxIn,n:=1,size:=fun _ h=>h.size,keep:=fun _ _ h hw=>hw.keep h}
theorem maxOk_globMax:@zO6 globMax:=fun w h=>h
theorem maxIn_of {w:World} (h:w.ShapedOpen Tryz.prog):MaxIn w:=Tryz.laysM144.s1_3 w h
end Go.Hx
