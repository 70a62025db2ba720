/-
  The law IndexBuilds, it returns true for every input, and each argument reads behind the call as it read before. No condition.
-/
import Derived.Test.YtjnagiaooecklabGreatDoorG39
import Derived.Test.YtjnagiaooecklabGreatDoorCards
import Derived.Test.YtjnagiaooecklabGreatDoorTie
import Derived.ProofKit
import Derived.OpenShut
set_option linter.all false
set_option maxRecDepth 100000
namespace Go.Proofs.YtjnagiaooecklabGreatDoor
open Go.RowKit Go.ChangeShapes Go.WideShapes Go.WideElems Go.Hx
theorem wft_indexBuilds:Rows.indexBuildsRow.wfByText (OpenSpec.ofChange Rows.indexBuildsSpec)=true:=by kernel_rfl
theorem goe_indexBuilds:false=Rows.indexBuildsRow.goesBy Tryz.pinned.checked.prog:=by kernel_rfl
theorem mis_indexBuilds:Tryz.pinned.checked.prog.mainIs=some (Rows.indexBuildsCard.stood.harness.1,Rows.indexBuildsCard.stood.harness.2.toList):=by kernel_rfl
theorem mit_indexBuilds:(!Rows.indexBuildsCard.stood.harness.1&&Rows.indexBuildsCard.stood.harness.2.isEmpty&&!true)=false:=rfl
theorem indexBuilds_card:Rows.IndexBuildsCardSaid:=
  Claim7.holds_tied_plain_at .later [] _ _ _ _ said_indexBuilds (fun _ h=>by cases h) wft_indexBuilds (fun _ h=>by cases h) indexBuilds_row_tie rfl ⟨rfl,rfl⟩ mis_indexBuilds mit_indexBuilds plain_indexBuilds goe_indexBuilds
#print axioms indexBuilds_card
end Go.Proofs.YtjnagiaooecklabGreatDoor
