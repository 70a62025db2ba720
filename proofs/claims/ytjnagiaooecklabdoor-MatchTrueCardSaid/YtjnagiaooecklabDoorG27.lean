/-
  What is closed of the program, whatever the law. No condition.
-/
import Derived.Test.YtjnagiaooecklabDoorCards
import Derived.Test.YtjnagiaooecklabDoorTie
import Derived.Deep.DeepLaidRun
import Derived.ProofKit
import Derived.OpenShut
set_option linter.all false
set_option maxRecDepth 100000
namespace Go.Proofs.YtjnagiaooecklabDoor
open Go.RowKit Go.ChangeShapes Go.WideShapes Go.WideElems
theorem j_laid : laidOutB Tryd.pinned.checked.prog = true := by kernel_rfl
theorem j_maps : mapsRowed Tryd.pinned.checked.prog = true := by kernel_rfl
theorem j_keys : (true == Tryd.pinned.checked.prog.plainKeys) = true := by kernel_rfl
theorem j_heard : Tryd.pinned.checked.prog.stopsHeard = true := by kernel_rfl
theorem j_enter : Tryd.pinned.checked.prog.mayEnter = true := by kernel_rfl
theorem j_stops : (Tryd.pinned.checked.prog.stops == []) = true := by kernel_rfl
theorem j_knobs : (Tryd.pinned.checked.prog.stopKnobs == []) = true := by kernel_rfl
end Go.Proofs.YtjnagiaooecklabDoor
