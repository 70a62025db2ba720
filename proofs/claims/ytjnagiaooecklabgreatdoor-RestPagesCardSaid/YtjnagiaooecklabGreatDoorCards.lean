/-
  DERIVED. GIVEN WITH THE SEED: THE CARDS: each row of YtjnagiaooecklabGreatDoorRows.lean that lists a variable, with what it lists TIED to the program's text (the seventh form; the later family's looks); each row that meets fmt, with fmt's text TOLD by the authors' own Lean function (tested against real Go, not proved from fmt's source: count such statements apart). THE CARD IS WHAT COUNTS. Prove the row's statement (the work); the ties are given (YtjnagiaooecklabGreatDoorTie.lean); close each card by the builder's one call (the guide's Derived/Test/ToyasCard.lean, 'card_holds'). Laid BY PROGRAM, IN A SANDBOX (cutbox-door.mjs). By AI agents, Wed Nov 11 2026. No macro, syntax, notation, axiom, sorry.
-/
import Derived.Test.YtjnagiaooecklabGreatDoorRows
import GoSem.ClaimSeven
namespace Go.Proofs.YtjnagiaooecklabGreatDoor
namespace Rows

/-- THE TIED CARD OF 'pathfinderylaw.MatchTells'. -/
def matchTellsCard : Claim7 := { stood := { row := matchTellsRow, standIns := [], harness := (true, "11d0c9fdfba2661d089afee7659b4f5ff272800a629f7eb41eca8deeb58a7772"), looks := true }, kinds := [], alts := [], laidByText := true, laidKinds := [.data, .pinned], laidTests := true, laidLooks := .later }
def MatchTellsCardSaid : Prop := Claim7.holds Tryz.pinned (.plain (OpenSpec.ofChange matchTellsSpec)) matchTellsCard

/-- THE TIED CARD OF 'pathfinderylaw.PlainSame'. -/
def plainSameCard : Claim7 := { stood := { row := plainSameRow, standIns := [], harness := (true, "11d0c9fdfba2661d089afee7659b4f5ff272800a629f7eb41eca8deeb58a7772"), looks := true }, kinds := [], alts := [], laidByText := true, laidKinds := [.data, .pinned], laidTests := true, laidLooks := .later }
def PlainSameCardSaid : Prop := Claim7.holds Tryz.pinned (.plain (OpenSpec.ofChange plainSameSpec)) plainSameCard

/-- THE TIED CARD OF 'pathfinderylaw.LiveChanges'. -/
def liveChangesCard : Claim7 := { stood := { row := liveChangesRow, standIns := [], harness := (true, "11d0c9fdfba2661d089afee7659b4f5ff272800a629f7eb41eca8deeb58a7772"), looks := true }, kinds := [], alts := [], laidByText := true, laidKinds := [.data, .pinned], laidTests := true, laidLooks := .later }
def LiveChangesCardSaid : Prop := Claim7.holds Tryz.pinned (.plain (OpenSpec.ofChange liveChangesSpec)) liveChangesCard

/-- THE TIED CARD OF 'pathfinderylaw.RestPages'. -/
def restPagesCard : Claim7 := { stood := { row := restPagesRow, standIns := [], harness := (true, "11d0c9fdfba2661d089afee7659b4f5ff272800a629f7eb41eca8deeb58a7772"), looks := true }, kinds := [], alts := [], laidByText := true, laidKinds := [.data, .pinned], laidTests := true, laidLooks := .later }
def RestPagesCardSaid : Prop := Claim7.holds Tryz.pinned (.plain (OpenSpec.ofChange restPagesSpec)) restPagesCard

/-- THE TIED CARD OF 'pathfinderylaw.IndexBuilds'. -/
def indexBuildsCard : Claim7 := { stood := { row := indexBuildsRow, standIns := [], harness := (true, "11d0c9fdfba2661d089afee7659b4f5ff272800a629f7eb41eca8deeb58a7772"), looks := true }, kinds := [], alts := [], laidByText := true, laidKinds := [.data, .pinned], laidTests := true, laidLooks := .later }
def IndexBuildsCardSaid : Prop := Claim7.holds Tryz.pinned (.plain (OpenSpec.ofChange indexBuildsSpec)) indexBuildsCard

/-- THE TIED CARD OF 'pathfinderylaw.IndexFinds'. -/
def indexFindsCard : Claim7 := { stood := { row := indexFindsRow, standIns := [], harness := (true, "11d0c9fdfba2661d089afee7659b4f5ff272800a629f7eb41eca8deeb58a7772"), looks := true }, kinds := [], alts := [], laidByText := true, laidKinds := [.data, .pinned], laidTests := true, laidLooks := .later }
def IndexFindsCardSaid : Prop := Claim7.holds Tryz.pinned (.plain (OpenSpec.ofChange indexFindsSpec)) indexFindsCard

/-- THE TIED CARD OF 'pathfinderylaw.IndexAll'. -/
def indexAllCard : Claim7 := { stood := { row := indexAllRow, standIns := [], harness := (true, "11d0c9fdfba2661d089afee7659b4f5ff272800a629f7eb41eca8deeb58a7772"), looks := true }, kinds := [], alts := [], laidByText := true, laidKinds := [.data, .pinned], laidTests := true, laidLooks := .later }
def IndexAllCardSaid : Prop := Claim7.holds Tryz.pinned (.plain (OpenSpec.ofChange indexAllSpec)) indexAllCard

/-- THE TIED CARD OF 'pathfinderylaw.PathShows'. -/
def pathShowsCard : Claim7 := { stood := { row := pathShowsRow, standIns := [], harness := (true, "11d0c9fdfba2661d089afee7659b4f5ff272800a629f7eb41eca8deeb58a7772"), looks := true }, kinds := [], alts := [], laidByText := true, laidKinds := [.data, .data, .data, .data, .sentinel, .sentinel, .pinned], laidTests := true, laidLooks := .later }
def PathShowsCardSaid : Prop := Claim7.holds Tryz.pinned (.plain (OpenSpec.ofChange pathShowsSpec)) pathShowsCard

/-- THE TIED CARD OF 'pathfinderylaw.PathWeighs'. -/
def pathWeighsCard : Claim7 := { stood := { row := pathWeighsRow, standIns := [], harness := (true, "11d0c9fdfba2661d089afee7659b4f5ff272800a629f7eb41eca8deeb58a7772"), looks := true }, kinds := [], alts := [], laidByText := true, laidKinds := [.data, .data, .data, .data, .sentinel, .sentinel, .pinned], laidTests := true, laidLooks := .later }
def PathWeighsCardSaid : Prop := Claim7.holds Tryz.pinned (.plain (OpenSpec.ofChange pathWeighsSpec)) pathWeighsCard

/-- THE TIED CARD OF 'pathfinderylaw.PathBack'. -/
def pathBackCard : Claim7 := { stood := { row := pathBackRow, standIns := [], harness := (true, "11d0c9fdfba2661d089afee7659b4f5ff272800a629f7eb41eca8deeb58a7772"), looks := true }, kinds := [], alts := [], laidByText := true, laidKinds := [.data, .data, .data, .data, .sentinel, .sentinel, .pinned], laidTests := true, laidLooks := .later }
def PathBackCardSaid : Prop := Claim7.holds Tryz.pinned (.plain (OpenSpec.ofChange pathBackSpec)) pathBackCard

/-- THE SECOND FORM's CARD OF 'pathfinderylaw.MatchTells'. -/
def matchTellsUptoCard : Claim7 := { stood := { row := matchTellsUptoRow, standIns := [], harness := (true, "11d0c9fdfba2661d089afee7659b4f5ff272800a629f7eb41eca8deeb58a7772"), looks := true }, kinds := [], alts := [], laidByText := true, laidKinds := [.data, .pinned], laidTests := true, laidLooks := .later }
def MatchTellsUptoCardSaid : Prop := Claim7.holds Tryz.pinned (.plain (OpenSpec.upto matchTellsSpec)) matchTellsUptoCard

/-- THE SECOND FORM's CARD OF 'pathfinderylaw.PlainSame'. -/
def plainSameUptoCard : Claim7 := { stood := { row := plainSameUptoRow, standIns := [], harness := (true, "11d0c9fdfba2661d089afee7659b4f5ff272800a629f7eb41eca8deeb58a7772"), looks := true }, kinds := [], alts := [], laidByText := true, laidKinds := [.data, .pinned], laidTests := true, laidLooks := .later }
def PlainSameUptoCardSaid : Prop := Claim7.holds Tryz.pinned (.plain (OpenSpec.upto plainSameSpec)) plainSameUptoCard

/-- THE SECOND FORM's CARD OF 'pathfinderylaw.LiveChanges'. -/
def liveChangesUptoCard : Claim7 := { stood := { row := liveChangesUptoRow, standIns := [], harness := (true, "11d0c9fdfba2661d089afee7659b4f5ff272800a629f7eb41eca8deeb58a7772"), looks := true }, kinds := [], alts := [], laidByText := true, laidKinds := [.data, .pinned], laidTests := true, laidLooks := .later }
def LiveChangesUptoCardSaid : Prop := Claim7.holds Tryz.pinned (.plain (OpenSpec.upto liveChangesSpec)) liveChangesUptoCard

/-- THE SECOND FORM's CARD OF 'pathfinderylaw.RestPages'. -/
def restPagesUptoCard : Claim7 := { stood := { row := restPagesUptoRow, standIns := [], harness := (true, "11d0c9fdfba2661d089afee7659b4f5ff272800a629f7eb41eca8deeb58a7772"), looks := true }, kinds := [], alts := [], laidByText := true, laidKinds := [.data, .pinned], laidTests := true, laidLooks := .later }
def RestPagesUptoCardSaid : Prop := Claim7.holds Tryz.pinned (.plain (OpenSpec.upto restPagesSpec)) restPagesUptoCard

/-- THE SECOND FORM's CARD OF 'pathfinderylaw.IndexBuilds'. -/
def indexBuildsUptoCard : Claim7 := { stood := { row := indexBuildsUptoRow, standIns := [], harness := (true, "11d0c9fdfba2661d089afee7659b4f5ff272800a629f7eb41eca8deeb58a7772"), looks := true }, kinds := [], alts := [], laidByText := true, laidKinds := [.data, .pinned], laidTests := true, laidLooks := .later }
def IndexBuildsUptoCardSaid : Prop := Claim7.holds Tryz.pinned (.plain (OpenSpec.upto indexBuildsSpec)) indexBuildsUptoCard

/-- THE SECOND FORM's CARD OF 'pathfinderylaw.IndexFinds'. -/
def indexFindsUptoCard : Claim7 := { stood := { row := indexFindsUptoRow, standIns := [], harness := (true, "11d0c9fdfba2661d089afee7659b4f5ff272800a629f7eb41eca8deeb58a7772"), looks := true }, kinds := [], alts := [], laidByText := true, laidKinds := [.data, .pinned], laidTests := true, laidLooks := .later }
def IndexFindsUptoCardSaid : Prop := Claim7.holds Tryz.pinned (.plain (OpenSpec.upto indexFindsSpec)) indexFindsUptoCard

/-- THE SECOND FORM's CARD OF 'pathfinderylaw.IndexAll'. -/
def indexAllUptoCard : Claim7 := { stood := { row := indexAllUptoRow, standIns := [], harness := (true, "11d0c9fdfba2661d089afee7659b4f5ff272800a629f7eb41eca8deeb58a7772"), looks := true }, kinds := [], alts := [], laidByText := true, laidKinds := [.data, .pinned], laidTests := true, laidLooks := .later }
def IndexAllUptoCardSaid : Prop := Claim7.holds Tryz.pinned (.plain (OpenSpec.upto indexAllSpec)) indexAllUptoCard

/-- THE SECOND FORM's CARD OF 'pathfinderylaw.PathShows'. -/
def pathShowsUptoCard : Claim7 := { stood := { row := pathShowsUptoRow, standIns := [], harness := (true, "11d0c9fdfba2661d089afee7659b4f5ff272800a629f7eb41eca8deeb58a7772"), looks := true }, kinds := [], alts := [], laidByText := true, laidKinds := [.data, .data, .data, .data, .sentinel, .sentinel, .pinned], laidTests := true, laidLooks := .later }
def PathShowsUptoCardSaid : Prop := Claim7.holds Tryz.pinned (.plain (OpenSpec.upto pathShowsSpec)) pathShowsUptoCard

/-- THE SECOND FORM's CARD OF 'pathfinderylaw.PathWeighs'. -/
def pathWeighsUptoCard : Claim7 := { stood := { row := pathWeighsUptoRow, standIns := [], harness := (true, "11d0c9fdfba2661d089afee7659b4f5ff272800a629f7eb41eca8deeb58a7772"), looks := true }, kinds := [], alts := [], laidByText := true, laidKinds := [.data, .data, .data, .data, .sentinel, .sentinel, .pinned], laidTests := true, laidLooks := .later }
def PathWeighsUptoCardSaid : Prop := Claim7.holds Tryz.pinned (.plain (OpenSpec.upto pathWeighsSpec)) pathWeighsUptoCard

/-- THE SECOND FORM's CARD OF 'pathfinderylaw.PathBack'. -/
def pathBackUptoCard : Claim7 := { stood := { row := pathBackUptoRow, standIns := [], harness := (true, "11d0c9fdfba2661d089afee7659b4f5ff272800a629f7eb41eca8deeb58a7772"), looks := true }, kinds := [], alts := [], laidByText := true, laidKinds := [.data, .data, .data, .data, .sentinel, .sentinel, .pinned], laidTests := true, laidLooks := .later }
def PathBackUptoCardSaid : Prop := Claim7.holds Tryz.pinned (.plain (OpenSpec.upto pathBackSpec)) pathBackUptoCard
end Rows
end Go.Proofs.YtjnagiaooecklabGreatDoor
