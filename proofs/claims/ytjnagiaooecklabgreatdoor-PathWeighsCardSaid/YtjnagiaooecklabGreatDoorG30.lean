/-
  Texts and numbers, read off the memory. No condition.
-/
import Derived.Test.YtjnagiaooecklabGreatDoorG29
import Derived.Test.YtjnagiaooecklabGreatDoorProg
import Derived.ChangeMaps5
set_option linter.all false
set_option linter.unusedVariables false
set_option maxRecDepth 100000
namespace Go.Hx
open Go.RowKit Go.ChangeShapes Go.WideShapes Go.WideElems Go.Proofs
attribute [local go_sem] zAz zAx zAy zAq ndV zAu
section
variable {H : Type} {enc : TypeId × Value → H} {W : World}
variable {r : Reach} {base : Nat} {v : Value} {d : DataW H} {ps : List MemPlace}
end
end Go.Hx
