/-
  DERIVED. GIVEN WITH THE SEED: THE CARDS: each row of YtjnagiaooecklabDoorRows.lean that lists a variable, with what it lists TIED to the program's text (the seventh form; the later family's looks); each row that meets fmt, with fmt's text TOLD by the authors' own Lean function (tested against real Go, not proved from fmt's source: count such statements apart). THE CARD IS WHAT COUNTS. Prove the row's statement (the work); the ties are given (YtjnagiaooecklabDoorTie.lean); close each card by the builder's one call (the guide's Derived/Test/ToyasCard.lean, 'card_holds'). Laid BY PROGRAM, IN A SANDBOX (cutbox-door.mjs). By AI agents, Wed Nov 11 2026. No macro, syntax, notation, axiom, sorry.
-/
import Derived.Test.YtjnagiaooecklabDoorRows
import GoSem.ClaimSeven
namespace Go.Proofs.YtjnagiaooecklabDoor
namespace Rows

/-- THE TIED CARD OF 'pathfinderylaw.MatchTrue'. -/
def matchTrueCard : Claim7 := { stood := { row := matchTrueRow, standIns := [], harness := (true, "3f517dffe6e3f4dce31e50fe9ece186778f1857e39e6a50e9b10d2f2df72b6ea"), looks := false }, kinds := [], alts := [], laidByText := true, laidKinds := [.data, .pinned], laidTests := true, laidLooks := .later }
def MatchTrueCardSaid : Prop := Claim7.holds Tryd.pinned (.plain (OpenSpec.ofChange matchTrueSpec)) matchTrueCard

/-- THE SECOND FORM's CARD OF 'pathfinderylaw.MatchTrue'. -/
def matchTrueUptoCard : Claim7 := { stood := { row := matchTrueUptoRow, standIns := [], harness := (true, "3f517dffe6e3f4dce31e50fe9ece186778f1857e39e6a50e9b10d2f2df72b6ea"), looks := false }, kinds := [], alts := [], laidByText := true, laidKinds := [.data, .pinned], laidTests := true, laidLooks := .later }
def MatchTrueUptoCardSaid : Prop := Claim7.holds Tryd.pinned (.plain (OpenSpec.upto matchTrueSpec)) matchTrueUptoCard
end Rows
end Go.Proofs.YtjnagiaooecklabDoor
