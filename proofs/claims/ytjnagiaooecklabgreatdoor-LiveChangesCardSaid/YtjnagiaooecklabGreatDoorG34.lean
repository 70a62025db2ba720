/-
  Arguments over paths, read off the memory. No condition.
-/
import Derived.Test.YtjnagiaooecklabGreatDoorG32
import Derived.Test.YtjnagiaooecklabGreatDoorG10
import Derived.Test.YtjnagiaooecklabGreatDoorProg
set_option linter.all false
set_option linter.unusedVariables false
set_option maxRecDepth 100000
namespace Go.Hx
open Go.RowKit Go.ChangeShapes Go.WideShapes Go.WideElems Go.Proofs
attribute [local go_sem] zAh zAm zAk zAg ndV zAr
section
variable {H:Type} {enc:TypeId×Value→H} {W:World}
variable {r:Reach} {base:Nat} {v:Value} {d:DataW H} {ps:List MemPlace}
end
end Go.Hx
