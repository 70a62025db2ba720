/-
 slices.Grow at nil: what comes may be appended to. No condition.
-/
import Derived.Test.YtjnagiaooecklabGreatDoorProg
import Derived.Test.YtjnagiaooecklabGreatDoorG10
import Derived.WalkKit
import Derived.RegionTactic
import Derived.Deep.Draws
import Derived.Laws.MakeOwn
import Derived.Laws.AppendOwn
set_option linter.all false
set_option maxRecDepth 100000
namespace Go.Proofs
open Go.RowKit Go.Hx
variable [Glob]
end Go.Proofs
