/-
  Walks of functions of the program over an abstract layer, and the laws that they use: each contract says what the function computes, for every input that its conditions let by. No other condition.
-/
import Derived.Test.YtjnagiaooecklabGreatDoorG19
import Derived.Test.YtjnagiaooecklabGreatDoorG21
import Derived.Test.YtjnagiaooecklabGreatDoorG22
import Derived.Shelf.Strings.Split
import Derived.Shelf.Strings.Search3
import Derived.Test.YtjnagiaooecklabGreatDoorG13
set_option linter.all false
section
set_option maxRecDepth 100000
set_option linter.unusedSimpArgs false
set_option maxHeartbeats 2000000
namespace Go.Hx
open Go.Proofs
variable [Glob] [GlobL]
attribute [local go_sem] zAh zAm zAk zAg ndV zAr zAp zGH zBb zBD zBC
end Go.Hx
end

section
set_option maxRecDepth 100000
set_option linter.unusedSimpArgs false
set_option maxHeartbeats 4000000
namespace Go.Hx
open Go.Proofs
variable [Glob] [GlobL]
attribute [local go_sem] zAh zAm zAk zAg ndV zAr zAp zGH zBb zBD zBC
end Go.Hx
end

section
set_option maxRecDepth 100000
set_option linter.unusedSimpArgs false
set_option maxHeartbeats 4000000
namespace Go.Hx
open Go.Proofs
variable [Glob] [GlobL]
attribute [local go_sem] zAh zAm zAk zAg ndV zAr zAp zGH zBb zBD zBC
end Go.Hx
end

section
set_option maxRecDepth 100000
set_option linter.unusedSimpArgs false
set_option maxHeartbeats 4000000
namespace Go.Hx
open Go.Proofs
variable [Glob] [GlobL]
attribute [local go_sem] zAh zAm zAk zAg ndV zAr zAp zGH zBb zBD zBC
end Go.Hx
end
