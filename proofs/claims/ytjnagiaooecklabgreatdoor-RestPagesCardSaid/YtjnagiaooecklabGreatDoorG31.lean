/-
  A world that holds what the rows list. No condition.
-/
import Derived.Test.YtjnagiaooecklabGreatDoorCards
import GoSem.PinnedTables
set_option linter.all false
namespace Go.Proofs.YtjnagiaooecklabGreatDoor
def setTab (g:Nat) (cs:Array Value) (w:World):World:=
  {w with heap:=w.heap.modify g fun
      | .cells _ t frozen=>.cells cs t frozen
      | o=>o}
def accCells:Array Value:=#[.int .u8 128,.int .u8 191,.int .u8 160,.int .u8 191,.int .u8 128,.int .u8 159,.int .u8 144,.int .u8 191,.int .u8 128,.int .u8 143,.int .u8 0,.int .u8 0,.int .u8 0,.int .u8 0,.int .u8 0,.int .u8 0,.int .u8 0,.int .u8 0,.int .u8 0,.int .u8 0,.int .u8 0,.int .u8 0,.int .u8 0,.int .u8 0,.int .u8 0,.int .u8 0,.int .u8 0,.int .u8 0,.int .u8 0,.int .u8 0,.int .u8 0,.int .u8 0]
def firstCells:Array Value:=(Go.Pinned.utf8FirstZ.map fun n:Nat=>Value.int .u8 n).toArray
noncomputable def laidW (os:Os):World:=
  setTab 2 accCells (setTab 1 firstCells (World.holding Tryz.prog os ⟨#[],#[],[]⟩))
end Go.Proofs.YtjnagiaooecklabGreatDoor
