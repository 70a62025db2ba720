/-
  What is closed of the program, whatever the law. No condition.
-/
import Derived.Test.YtjnagiaooecklabGreatDoorCards
import Derived.Test.YtjnagiaooecklabGreatDoorTie
import Derived.Deep.DeepLaidRun
import Derived.ProofKit
import Derived.OpenShut
set_option linter.all false
set_option maxRecDepth 100000
namespace Go.Proofs.YtjnagiaooecklabGreatDoor
open Go.RowKit Go.ChangeShapes Go.WideShapes Go.WideElems
theorem j_laid:laidOutB Tryz.pinned.checked.prog=true:=by kernel_rfl
theorem j_maps:mapsRowed Tryz.pinned.checked.prog=true:=by kernel_rfl
theorem j_keys:(false==Tryz.pinned.checked.prog.plainKeys)=true:=by kernel_rfl
theorem j_heard:Tryz.pinned.checked.prog.stopsHeard=true:=by kernel_rfl
theorem j_enter:Tryz.pinned.checked.prog.mayEnter=true:=by kernel_rfl
theorem j_stops:(Tryz.pinned.checked.prog.stops==[])=true:=by kernel_rfl
theorem j_knobs:(Tryz.pinned.checked.prog.stopKnobs==[])=true:=by kernel_rfl
end Go.Proofs.YtjnagiaooecklabGreatDoor
