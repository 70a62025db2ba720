/-
 Words of a text: parted at blanks, or found where they stand. Plain Lean. No condition.
-/
import Derived.Test.YtjnagiaooecklabGreatDoorG10
import Derived.Lib.SplitLaws
set_option linter.all false
namespace Go.Hx
open Go.Lib
variable [Glob]
end Go.Hx
