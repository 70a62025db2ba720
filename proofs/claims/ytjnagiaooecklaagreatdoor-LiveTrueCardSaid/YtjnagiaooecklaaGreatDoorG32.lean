/-
  Walks of functions of the program over an abstract layer, and the laws that they use: each contract says what the function computes, for every input that its conditions let by. No other condition.
-/
import Derived.Test.YtjnagiaooecklaaGreatDoorG27
import Derived.Test.YtjnagiaooecklaaGreatDoorG30
import Derived.Test.YtjnagiaooecklaaGreatDoorG13
set_option linter.all false
section
set_option maxRecDepth 100000
set_option linter.unusedSimpArgs false
namespace Go.Hx
open Go.Proofs
variable [Glob] [GlobL]
attribute [local go_sem] zAk zAi zAj zAe ndV zAg zCv List.getElem?_cons_zero List.getElem?_cons_succ
theorem z2:(2:Int).toNat=2:=rfl
theorem z3:(3:Int).toNat=3:=rfl
end Go.Hx
end

section
set_option maxRecDepth 100000
set_option linter.unusedSimpArgs false
namespace Go.Hx
open Go.Proofs
variable [Glob] [GlobL]
attribute [local go_sem] zAk zAi zAj zAe ndV zAg zCv
end Go.Hx
end

section
set_option maxRecDepth 100000
set_option linter.unusedSimpArgs false
namespace Go.Hx
open Go.Proofs
variable [Glob] [GlobL]
attribute [local go_sem] zAk zAi zAj zAe ndV zAg zCv atV zN7 OVal.cells zVc List.drop_succ_cons List.drop_zero List.take_succ_cons List.getD_nil zUx zFk Nat.sub_zero List.map_nil List.map_cons ev zAl zHX zPW yKc zLH yHY
attribute [local go_sem ↓] yGs yGt
end Go.Hx
end

section
set_option maxRecDepth 100000
set_option linter.unusedSimpArgs false
namespace Go.Hx
open Go.Proofs
variable [Glob] [GlobL]
attribute [local go_sem] zAk zAi zAj zAe ndV zAg zMJ zMI zRJ zMH List.take_zero List.map_nil List.nil_append List.length_append
end Go.Hx
end
