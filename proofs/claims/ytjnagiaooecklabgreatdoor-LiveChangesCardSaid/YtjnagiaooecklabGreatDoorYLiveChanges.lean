/-
  The law LiveChanges, it returns true for every input, and each argument reads behind the call as it read before. No condition.
-/
import Derived.Test.YtjnagiaooecklabGreatDoorG39
import Derived.Test.YtjnagiaooecklabGreatDoorCards
import Derived.Test.YtjnagiaooecklabGreatDoorTie
import Derived.ProofKit
import Derived.OpenShut
set_option linter.all false
set_option maxRecDepth 100000
namespace Go.Proofs.YtjnagiaooecklabGreatDoor
open Go.RowKit Go.ChangeShapes Go.WideShapes Go.WideElems Go.Hx
theorem wft_liveChanges:Rows.liveChangesRow.wfByText (OpenSpec.ofChange Rows.liveChangesSpec)=true:=by kernel_rfl
theorem goe_liveChanges:false=Rows.liveChangesRow.goesBy Tryz.pinned.checked.prog:=by kernel_rfl
theorem mis_liveChanges:Tryz.pinned.checked.prog.mainIs=some (Rows.liveChangesCard.stood.harness.1,Rows.liveChangesCard.stood.harness.2.toList):=by kernel_rfl
theorem mit_liveChanges:(!Rows.liveChangesCard.stood.harness.1&&Rows.liveChangesCard.stood.harness.2.isEmpty&&!true)=false:=rfl
theorem liveChanges_card:Rows.LiveChangesCardSaid:=
  Claim7.holds_tied_plain_at .later [] _ _ _ _ said_liveChanges (fun _ h=>by cases h) wft_liveChanges (fun _ h=>by cases h) liveChanges_row_tie rfl ⟨rfl,rfl⟩ mis_liveChanges mit_liveChanges plain_liveChanges goe_liveChanges
#print axioms liveChanges_card
end Go.Proofs.YtjnagiaooecklabGreatDoor
