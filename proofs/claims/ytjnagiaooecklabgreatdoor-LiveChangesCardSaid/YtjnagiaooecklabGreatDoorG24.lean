/-
  Walks of functions of the program over an abstract layer, and the laws that they use: each contract says what the function computes, for every input that its conditions let by. No other condition.
-/
import Derived.Test.YtjnagiaooecklabGreatDoorG23
import Derived.RangeFuncNested
import Derived.RangeFuncBound
import Derived.RangeFuncCalls
import Derived.RangeFuncLeaves
import Derived.Shelf.Abstract
import Derived.Shelf.RegionOpen
import Derived.WalkKit
import Derived.OwnWalkIn
import Derived.TacticsInMore
import Derived.LoopNIn
import Derived.LoopIn
set_option linter.all false
section
set_option maxRecDepth 100000
set_option linter.unusedSimpArgs false
set_option maxHeartbeats 4000000
namespace Go.Hx
open Go.Proofs Go.RowKit Go.Shelf
variable [Glob] [GlobL]
end Go.Hx
end

section
set_option maxRecDepth 100000
set_option linter.unusedSimpArgs false
set_option maxHeartbeats 4000000
attribute [local go_sem] Go.Oper.semAt_some
namespace Go.Hx
open Go.Proofs Go.RowKit Go.Shelf
variable [Glob] [GlobL]
end Go.Hx
end

section
set_option maxRecDepth 100000
set_option linter.unusedSectionVars false
namespace Go.Hx
variable [Glob] [GlobL]
section
variable {d:List Nd} (hd:zCm d d.length=true)
include hd
end
end Go.Hx
end
