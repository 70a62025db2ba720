/-
  The law RestPages, it returns true for every input, and each argument reads behind the call as it read before. No condition.
-/
import Derived.Test.YtjnagiaooecklabGreatDoorG35
import Derived.Test.YtjnagiaooecklabGreatDoorCards
import Derived.Test.YtjnagiaooecklabGreatDoorTie
import Derived.ProofKit
import Derived.OpenShut
set_option linter.all false
set_option maxRecDepth 100000
namespace Go.Proofs.YtjnagiaooecklabGreatDoor
open Go.RowKit Go.ChangeShapes Go.WideShapes Go.WideElems Go.Hx
theorem wft_restPages:Rows.restPagesRow.wfByText (OpenSpec.ofChange Rows.restPagesSpec)=true:=by kernel_rfl
theorem goe_restPages:false=Rows.restPagesRow.goesBy Tryz.pinned.checked.prog:=by kernel_rfl
theorem mis_restPages:Tryz.pinned.checked.prog.mainIs=some (Rows.restPagesCard.stood.harness.1,Rows.restPagesCard.stood.harness.2.toList):=by kernel_rfl
theorem mit_restPages:(!Rows.restPagesCard.stood.harness.1&&Rows.restPagesCard.stood.harness.2.isEmpty&&!true)=false:=rfl
theorem restPages_card:Rows.RestPagesCardSaid:=
  Claim7.holds_tied_plain_at .later [] _ _ _ _ said_restPages (fun _ h=>by cases h) wft_restPages (fun _ h=>by cases h) restPages_row_tie rfl ⟨rfl,rfl⟩ mis_restPages mit_restPages plain_restPages goe_restPages
#print axioms restPages_card
end Go.Proofs.YtjnagiaooecklabGreatDoor
