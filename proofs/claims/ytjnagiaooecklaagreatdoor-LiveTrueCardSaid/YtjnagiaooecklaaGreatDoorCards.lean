/-
  DERIVED. GIVEN WITH THE SEED: THE CARDS: each row of YtjnagiaooecklaaGreatDoorRows.lean that lists a variable, with what it lists TIED to the program's text (the seventh form; the later family's looks); each row that meets fmt, with fmt's text TOLD by the authors' own Lean function (tested against real Go, not proved from fmt's source: count such statements apart). THE CARD IS WHAT COUNTS. Prove the row's statement (the work); the ties are given (YtjnagiaooecklaaGreatDoorTie.lean); close each card by the builder's one call (the guide's Derived/Test/ToyasCard.lean, 'card_holds'). Laid BY PROGRAM, IN A SANDBOX (cutbox-door.mjs). By AI agents, Wed Nov 11 2026. No macro, syntax, notation, axiom, sorry.
-/
import Derived.Test.YtjnagiaooecklaaGreatDoorRows
import GoSem.ClaimSeven
namespace Go.Proofs.YtjnagiaooecklaaGreatDoor
namespace Rows

/-- THE TIED CARD OF 'pathfinderylaw.LiveTrue'. -/
def liveTrueCard : Claim7 := { stood := { row := liveTrueRow, standIns := [], harness := (true, "0accb3e03ff468272ecaf773379a397b1ab5053dc83b72201b77a527021fb8a4"), looks := true }, kinds := [], alts := [], laidByText := true, laidKinds := [.data, .pinned], laidTests := true, laidLooks := .later }
def LiveTrueCardSaid : Prop := Claim7.holds Tryz.pinned (.plain (OpenSpec.ofChange liveTrueSpec)) liveTrueCard

/-- THE TIED CARD OF 'pathfinderylaw.DeskPlays'. -/
def deskPlaysCard : Claim7 := { stood := { row := deskPlaysRow, standIns := [], harness := (true, "0accb3e03ff468272ecaf773379a397b1ab5053dc83b72201b77a527021fb8a4"), looks := true }, kinds := [], alts := [], laidByText := true, laidKinds := [.data, .data, .data, .data, .sentinel, .sentinel, .pinned], laidTests := true, laidLooks := .later }
def DeskPlaysCardSaid : Prop := Claim7.holds Tryz.pinned (.plain (OpenSpec.ofChange deskPlaysSpec)) deskPlaysCard

/-- THE TIED CARD OF 'pathfinderylaw.MatchTests'. -/
def matchTestsCard : Claim7 := { stood := { row := matchTestsRow, standIns := [], harness := (true, "0accb3e03ff468272ecaf773379a397b1ab5053dc83b72201b77a527021fb8a4"), looks := true }, kinds := [], alts := [], laidByText := true, laidKinds := [.data, .pinned], laidTests := true, laidLooks := .later }
def MatchTestsCardSaid : Prop := Claim7.holds Tryz.pinned (.plain (OpenSpec.ofChange matchTestsSpec)) matchTestsCard

/-- THE SECOND FORM's CARD OF 'pathfinderylaw.LiveTrue'. -/
def liveTrueUptoCard : Claim7 := { stood := { row := liveTrueUptoRow, standIns := [], harness := (true, "0accb3e03ff468272ecaf773379a397b1ab5053dc83b72201b77a527021fb8a4"), looks := true }, kinds := [], alts := [], laidByText := true, laidKinds := [.data, .pinned], laidTests := true, laidLooks := .later }
def LiveTrueUptoCardSaid : Prop := Claim7.holds Tryz.pinned (.plain (OpenSpec.upto liveTrueSpec)) liveTrueUptoCard

/-- THE SECOND FORM's CARD OF 'pathfinderylaw.DeskPlays'. -/
def deskPlaysUptoCard : Claim7 := { stood := { row := deskPlaysUptoRow, standIns := [], harness := (true, "0accb3e03ff468272ecaf773379a397b1ab5053dc83b72201b77a527021fb8a4"), looks := true }, kinds := [], alts := [], laidByText := true, laidKinds := [.data, .data, .data, .data, .sentinel, .sentinel, .pinned], laidTests := true, laidLooks := .later }
def DeskPlaysUptoCardSaid : Prop := Claim7.holds Tryz.pinned (.plain (OpenSpec.upto deskPlaysSpec)) deskPlaysUptoCard

/-- THE SECOND FORM's CARD OF 'pathfinderylaw.MatchTests'. -/
def matchTestsUptoCard : Claim7 := { stood := { row := matchTestsUptoRow, standIns := [], harness := (true, "0accb3e03ff468272ecaf773379a397b1ab5053dc83b72201b77a527021fb8a4"), looks := true }, kinds := [], alts := [], laidByText := true, laidKinds := [.data, .pinned], laidTests := true, laidLooks := .later }
def MatchTestsUptoCardSaid : Prop := Claim7.holds Tryz.pinned (.plain (OpenSpec.upto matchTestsSpec)) matchTestsUptoCard
end Rows
end Go.Proofs.YtjnagiaooecklaaGreatDoor
