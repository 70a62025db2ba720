/-
 The abstract code of look.path ahead of its loop, printed by gen.py; each piece stands for the given one. No condition.
-/
import Derived.Test.YtjnagiaooecklabGreatDoorG12
import Derived.Test.YtjnagiaooecklabGreatDoorG25
set_option linter.all false
namespace Go.Hx
open Go.Proofs
variable [Glob]
end Go.Hx
