/-
  Texts and numbers, read off the memory. No condition.
-/
import Derived.Test.YtjnagiaooecklabGreatDoorG29
import Derived.Test.YtjnagiaooecklabGreatDoorProg
import Derived.ChangeMaps5
set_option linter.all false
set_option linter.unusedVariables false
set_option maxRecDepth 100000
namespace Go.Hx
open Go.RowKit Go.ChangeShapes Go.WideShapes Go.WideElems Go.Proofs
attribute [local go_sem] zAC zAz zAB zAw ndV zAx
theorem ut_string:Tryz.prog.underlying 9=some .string:=by kernel_rfl
section
variable {H:Type} {enc:TypeId × Value→H} {W:World}
variable {r:Reach} {base:Nat} {v:Value} {d:DataW H} {ps:List MemPlace}
theorem a_str (hval:Value.okWide Tryz.prog W r base 9 v) (h:DataW.Trod enc Tryz.prog W 0 (fun _=>true) true 9 v d ps):∃ x:Bys,ArgRep (memOf W) W (.val (sv x)) v∧d = .lit (.string x):=by
  obtain ⟨s,rfl,rfl,rfl,hs⟩:=ChangeMaps.open_string ut_string hval h
  exact ⟨s.data.toList,⟨rfl,by simp only [zEH]; exact decide_eq_true hs⟩,rfl⟩
end
end Go.Hx
