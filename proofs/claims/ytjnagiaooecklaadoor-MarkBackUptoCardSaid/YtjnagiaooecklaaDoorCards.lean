/-
  DERIVED. GIVEN WITH THE SEED: THE CARDS: each row of YtjnagiaooecklaaDoorRows.lean that lists a variable, with what it lists TIED to the program's text (the seventh form; the later family's looks); each row that meets fmt, with fmt's text TOLD by the authors' own Lean function (tested against real Go, not proved from fmt's source: count such statements apart). THE CARD IS WHAT COUNTS. Prove the row's statement (the work); the ties are given (YtjnagiaooecklaaDoorTie.lean); close each card by the builder's one call (the guide's Derived/Test/ToyasCard.lean, 'card_holds'). Laid BY PROGRAM, IN A SANDBOX (cutbox-door.mjs). By AI agents, Wed Nov 11 2026. No macro, syntax, notation, axiom, sorry.
-/
import Derived.Test.YtjnagiaooecklaaDoorRows
import GoSem.ClaimSeven
namespace Go.Proofs.YtjnagiaooecklaaDoor
namespace Rows

/-- THE TIED CARD OF 'pathfinderylaw.DocTells'. -/
def docTellsCard : Claim7 := { stood := { row := docTellsRow, standIns := [], harness := (true, "4cb591f56f89cef562f3c80964c72e63b85cad744570919425ce106abebb237e"), looks := true }, kinds := [], alts := [], laidByText := true, laidKinds := [.data, .pinned], laidTests := true, laidLooks := .later }
def DocTellsCardSaid : Prop := Claim7.holds Tryd.pinned (.plain (OpenSpec.ofChange docTellsSpec)) docTellsCard

/-- THE TIED CARD OF 'pathfinderylaw.DocInserts'. -/
def docInsertsCard : Claim7 := { stood := { row := docInsertsRow, standIns := [], harness := (true, "4cb591f56f89cef562f3c80964c72e63b85cad744570919425ce106abebb237e"), looks := true }, kinds := [], alts := [], laidByText := true, laidKinds := [.data, .pinned], laidTests := true, laidLooks := .later }
def DocInsertsCardSaid : Prop := Claim7.holds Tryd.pinned (.plain (OpenSpec.ofChange docInsertsSpec)) docInsertsCard

/-- THE TIED CARD OF 'pathfinderylaw.DocChanges'. -/
def docChangesCard : Claim7 := { stood := { row := docChangesRow, standIns := [], harness := (true, "4cb591f56f89cef562f3c80964c72e63b85cad744570919425ce106abebb237e"), looks := true }, kinds := [], alts := [], laidByText := true, laidKinds := [.data, .pinned], laidTests := true, laidLooks := .later }
def DocChangesCardSaid : Prop := Claim7.holds Tryd.pinned (.plain (OpenSpec.ofChange docChangesSpec)) docChangesCard

/-- THE TIED CARD OF 'pathfinderylaw.DocBack'. -/
def docBackCard : Claim7 := { stood := { row := docBackRow, standIns := [], harness := (true, "4cb591f56f89cef562f3c80964c72e63b85cad744570919425ce106abebb237e"), looks := true }, kinds := [], alts := [], laidByText := true, laidKinds := [.data, .pinned], laidTests := true, laidLooks := .later }
def DocBackCardSaid : Prop := Claim7.holds Tryd.pinned (.plain (OpenSpec.ofChange docBackSpec)) docBackCard

/-- THE TIED CARD OF 'pathfinderylaw.PlainTells'. -/
def plainTellsCard : Claim7 := { stood := { row := plainTellsRow, standIns := [], harness := (true, "4cb591f56f89cef562f3c80964c72e63b85cad744570919425ce106abebb237e"), looks := true }, kinds := [], alts := [], laidByText := true, laidKinds := [.data, .pinned], laidTests := true, laidLooks := .later }
def PlainTellsCardSaid : Prop := Claim7.holds Tryd.pinned (.plain (OpenSpec.ofChange plainTellsSpec)) plainTellsCard

/-- THE TIED CARD OF 'pathfinderylaw.MarkShows'. -/
def markShowsCard : Claim7 := { stood := { row := markShowsRow, standIns := [], harness := (true, "4cb591f56f89cef562f3c80964c72e63b85cad744570919425ce106abebb237e"), looks := true }, kinds := [], alts := [], laidByText := true, laidKinds := [.data, .pinned], laidTests := true, laidLooks := .later }
def MarkShowsCardSaid : Prop := Claim7.holds Tryd.pinned (.plain (OpenSpec.ofChange markShowsSpec)) markShowsCard

/-- THE TIED CARD OF 'pathfinderylaw.MarkBack'. -/
def markBackCard : Claim7 := { stood := { row := markBackRow, standIns := [], harness := (true, "4cb591f56f89cef562f3c80964c72e63b85cad744570919425ce106abebb237e"), looks := true }, kinds := [], alts := [], laidByText := true, laidKinds := [.data, .pinned], laidTests := true, laidLooks := .later }
def MarkBackCardSaid : Prop := Claim7.holds Tryd.pinned (.plain (OpenSpec.ofChange markBackSpec)) markBackCard

/-- THE TIED CARD OF 'pathfinderylaw.NthTells'. -/
def nthTellsCard : Claim7 := { stood := { row := nthTellsRow, standIns := [], harness := (true, "4cb591f56f89cef562f3c80964c72e63b85cad744570919425ce106abebb237e"), looks := true }, kinds := [], alts := [], laidByText := true, laidKinds := [.data, .data, .data, .sentinel, .sentinel], laidTests := true, laidLooks := .later }
def NthTellsCardSaid : Prop := Claim7.holds Tryd.pinned (.plain (OpenSpec.ofChange nthTellsSpec)) nthTellsCard

/-- THE TIED CARD OF 'pathfinderylaw.NthTrue'. -/
def nthTrueCard : Claim7 := { stood := { row := nthTrueRow, standIns := [], harness := (true, "4cb591f56f89cef562f3c80964c72e63b85cad744570919425ce106abebb237e"), looks := true }, kinds := [], alts := [], laidByText := true, laidKinds := [.data, .data, .data, .sentinel, .sentinel], laidTests := true, laidLooks := .later }
def NthTrueCardSaid : Prop := Claim7.holds Tryd.pinned (.plain (OpenSpec.ofChange nthTrueSpec)) nthTrueCard

/-- THE SECOND FORM's CARD OF 'pathfinderylaw.DocTells'. -/
def docTellsUptoCard : Claim7 := { stood := { row := docTellsUptoRow, standIns := [], harness := (true, "4cb591f56f89cef562f3c80964c72e63b85cad744570919425ce106abebb237e"), looks := true }, kinds := [], alts := [], laidByText := true, laidKinds := [.data, .pinned], laidTests := true, laidLooks := .later }
def DocTellsUptoCardSaid : Prop := Claim7.holds Tryd.pinned (.plain (OpenSpec.upto docTellsSpec)) docTellsUptoCard

/-- THE SECOND FORM's CARD OF 'pathfinderylaw.DocInserts'. -/
def docInsertsUptoCard : Claim7 := { stood := { row := docInsertsUptoRow, standIns := [], harness := (true, "4cb591f56f89cef562f3c80964c72e63b85cad744570919425ce106abebb237e"), looks := true }, kinds := [], alts := [], laidByText := true, laidKinds := [.data, .pinned], laidTests := true, laidLooks := .later }
def DocInsertsUptoCardSaid : Prop := Claim7.holds Tryd.pinned (.plain (OpenSpec.upto docInsertsSpec)) docInsertsUptoCard

/-- THE SECOND FORM's CARD OF 'pathfinderylaw.DocChanges'. -/
def docChangesUptoCard : Claim7 := { stood := { row := docChangesUptoRow, standIns := [], harness := (true, "4cb591f56f89cef562f3c80964c72e63b85cad744570919425ce106abebb237e"), looks := true }, kinds := [], alts := [], laidByText := true, laidKinds := [.data, .pinned], laidTests := true, laidLooks := .later }
def DocChangesUptoCardSaid : Prop := Claim7.holds Tryd.pinned (.plain (OpenSpec.upto docChangesSpec)) docChangesUptoCard

/-- THE SECOND FORM's CARD OF 'pathfinderylaw.DocBack'. -/
def docBackUptoCard : Claim7 := { stood := { row := docBackUptoRow, standIns := [], harness := (true, "4cb591f56f89cef562f3c80964c72e63b85cad744570919425ce106abebb237e"), looks := true }, kinds := [], alts := [], laidByText := true, laidKinds := [.data, .pinned], laidTests := true, laidLooks := .later }
def DocBackUptoCardSaid : Prop := Claim7.holds Tryd.pinned (.plain (OpenSpec.upto docBackSpec)) docBackUptoCard

/-- THE SECOND FORM's CARD OF 'pathfinderylaw.PlainTells'. -/
def plainTellsUptoCard : Claim7 := { stood := { row := plainTellsUptoRow, standIns := [], harness := (true, "4cb591f56f89cef562f3c80964c72e63b85cad744570919425ce106abebb237e"), looks := true }, kinds := [], alts := [], laidByText := true, laidKinds := [.data, .pinned], laidTests := true, laidLooks := .later }
def PlainTellsUptoCardSaid : Prop := Claim7.holds Tryd.pinned (.plain (OpenSpec.upto plainTellsSpec)) plainTellsUptoCard

/-- THE SECOND FORM's CARD OF 'pathfinderylaw.MarkShows'. -/
def markShowsUptoCard : Claim7 := { stood := { row := markShowsUptoRow, standIns := [], harness := (true, "4cb591f56f89cef562f3c80964c72e63b85cad744570919425ce106abebb237e"), looks := true }, kinds := [], alts := [], laidByText := true, laidKinds := [.data, .pinned], laidTests := true, laidLooks := .later }
def MarkShowsUptoCardSaid : Prop := Claim7.holds Tryd.pinned (.plain (OpenSpec.upto markShowsSpec)) markShowsUptoCard

/-- THE SECOND FORM's CARD OF 'pathfinderylaw.MarkBack'. -/
def markBackUptoCard : Claim7 := { stood := { row := markBackUptoRow, standIns := [], harness := (true, "4cb591f56f89cef562f3c80964c72e63b85cad744570919425ce106abebb237e"), looks := true }, kinds := [], alts := [], laidByText := true, laidKinds := [.data, .pinned], laidTests := true, laidLooks := .later }
def MarkBackUptoCardSaid : Prop := Claim7.holds Tryd.pinned (.plain (OpenSpec.upto markBackSpec)) markBackUptoCard

/-- THE SECOND FORM's CARD OF 'pathfinderylaw.NthTells'. -/
def nthTellsUptoCard : Claim7 := { stood := { row := nthTellsUptoRow, standIns := [], harness := (true, "4cb591f56f89cef562f3c80964c72e63b85cad744570919425ce106abebb237e"), looks := true }, kinds := [], alts := [], laidByText := true, laidKinds := [.data, .data, .data, .sentinel, .sentinel], laidTests := true, laidLooks := .later }
def NthTellsUptoCardSaid : Prop := Claim7.holds Tryd.pinned (.plain (OpenSpec.upto nthTellsSpec)) nthTellsUptoCard

/-- THE SECOND FORM's CARD OF 'pathfinderylaw.NthTrue'. -/
def nthTrueUptoCard : Claim7 := { stood := { row := nthTrueUptoRow, standIns := [], harness := (true, "4cb591f56f89cef562f3c80964c72e63b85cad744570919425ce106abebb237e"), looks := true }, kinds := [], alts := [], laidByText := true, laidKinds := [.data, .data, .data, .sentinel, .sentinel], laidTests := true, laidLooks := .later }
def NthTrueUptoCardSaid : Prop := Claim7.holds Tryd.pinned (.plain (OpenSpec.upto nthTrueSpec)) nthTrueUptoCard
end Rows
end Go.Proofs.YtjnagiaooecklaaDoor
