/-
  The law IndexFinds, it returns true for every input, and each argument reads behind the call as it read before. No condition.
-/
import Derived.Test.YtjnagiaooecklabGreatDoorG40
import Derived.Test.YtjnagiaooecklabGreatDoorCards
import Derived.Test.YtjnagiaooecklabGreatDoorTie
import Derived.ProofKit
import Derived.OpenShut
set_option linter.all false
set_option maxRecDepth 100000
namespace Go.Proofs.YtjnagiaooecklabGreatDoor
open Go.RowKit Go.ChangeShapes Go.WideShapes Go.WideElems Go.Hx
theorem wft_indexFinds:Rows.indexFindsRow.wfByText (OpenSpec.ofChange Rows.indexFindsSpec)=true:=by kernel_rfl
theorem goe_indexFinds:false=Rows.indexFindsRow.goesBy Tryz.pinned.checked.prog:=by kernel_rfl
theorem mis_indexFinds:Tryz.pinned.checked.prog.mainIs=some (Rows.indexFindsCard.stood.harness.1,Rows.indexFindsCard.stood.harness.2.toList):=by kernel_rfl
theorem mit_indexFinds:(!Rows.indexFindsCard.stood.harness.1&&Rows.indexFindsCard.stood.harness.2.isEmpty&&!true)=false:=rfl
theorem indexFinds_card:Rows.IndexFindsCardSaid:=
  Claim7.holds_tied_plain_at .later [] _ _ _ _ said_indexFinds (fun _ h=>by cases h) wft_indexFinds (fun _ h=>by cases h) indexFinds_row_tie rfl ⟨rfl,rfl⟩ mis_indexFinds mit_indexFinds plain_indexFinds goe_indexFinds
#print axioms indexFinds_card
end Go.Proofs.YtjnagiaooecklabGreatDoor
