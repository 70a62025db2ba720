/-
  A world that holds what the rows list. No condition.
-/
import Derived.Test.YtjnagiaooecklaaDoorCards
import GoSem.PinnedTables
set_option linter.all false
namespace Go.Proofs.YtjnagiaooecklaaDoor
/-- A variable's cells, laid. -/
def setTab (g : Nat) (cs : Array Value) (w : World) : World :=
  { w with heap := w.heap.modify g fun
      | .cells _ t frozen => .cells cs t frozen
      | o => o }
/-- The settled world, the two tables laid. -/
noncomputable def laidW (os : Os) : World :=
  setTab 5 #[.int .u8 128, .int .u8 191, .int .u8 160, .int .u8 191, .int .u8 128, .int .u8 159, .int .u8 144, .int .u8 191, .int .u8 128, .int .u8 143, .int .u8 0, .int .u8 0, .int .u8 0, .int .u8 0, .int .u8 0, .int .u8 0, .int .u8 0, .int .u8 0, .int .u8 0, .int .u8 0, .int .u8 0, .int .u8 0, .int .u8 0, .int .u8 0, .int .u8 0, .int .u8 0, .int .u8 0, .int .u8 0, .int .u8 0, .int .u8 0, .int .u8 0, .int .u8 0]
    (setTab 4 (Go.Pinned.utf8FirstZ.map fun n : Nat => Value.int .u8 n).toArray (World.holding Tryd.prog os ⟨#[], #[], []⟩))
end Go.Proofs.YtjnagiaooecklaaDoor
