/-
  The law LiveTrue, it returns true for every input, and each argument reads behind the call as it read before. No condition.
-/
import Derived.Test.YtjnagiaooecklaaGreatDoorG40
import Derived.Test.YtjnagiaooecklaaGreatDoorCards
import Derived.Test.YtjnagiaooecklaaGreatDoorTie
import Derived.ProofKit
import Derived.OpenShut
set_option linter.all false
set_option maxRecDepth 100000
namespace Go.Proofs.YtjnagiaooecklaaGreatDoor
open Go.RowKit Go.ChangeShapes Go.WideShapes Go.WideElems Go.Hx
theorem wft_liveTrue:Rows.liveTrueRow.wfByText (OpenSpec.ofChange Rows.liveTrueSpec)=true:=by kernel_rfl
theorem goe_liveTrue:false=Rows.liveTrueRow.goesBy Tryz.pinned.checked.prog:=by kernel_rfl
theorem mis_liveTrue:Tryz.pinned.checked.prog.mainIs=some (Rows.liveTrueCard.stood.harness.1,Rows.liveTrueCard.stood.harness.2.toList):=by kernel_rfl
theorem mit_liveTrue:(!Rows.liveTrueCard.stood.harness.1&&Rows.liveTrueCard.stood.harness.2.isEmpty&&!true)=false:=rfl
theorem liveTrue_card:Rows.LiveTrueCardSaid:=
  Claim7.holds_tied_plain_at .later [] _ _ _ _ said_liveTrue (fun _ h=>by cases h) wft_liveTrue (fun _ h=>by cases h) liveTrue_row_tie rfl ⟨rfl,rfl⟩ mis_liveTrue mit_liveTrue plain_liveTrue goe_liveTrue
#print axioms liveTrue_card
end Go.Proofs.YtjnagiaooecklaaGreatDoor
