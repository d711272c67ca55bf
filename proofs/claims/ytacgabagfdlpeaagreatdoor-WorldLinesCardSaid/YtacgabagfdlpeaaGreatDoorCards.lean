/-
  DERIVED. GIVEN WITH THE SEED: THE CARDS: each row of YtacgabagfdlpeaaGreatDoorRows.lean that lists a variable, with what it lists TIED to the program's text (the seventh form; the later family's looks); each row that meets fmt, with fmt's text TOLD by the authors' own Lean function (tested against real Go, not proved from fmt's source: count such statements apart). THE CARD IS WHAT COUNTS. Prove the row's statement (the work); the ties are given (YtacgabagfdlpeaaGreatDoorTie.lean); close each card by the builder's one call (the guide's Derived/Test/ToyasCard.lean, 'card_holds'). Laid BY PROGRAM, IN A SANDBOX (cutbox-door.mjs). By AI agents, Wed Nov 11 2026. No macro, syntax, notation, axiom, sorry.
-/
import Derived.Test.YtacgabagfdlpeaaGreatDoorRows
import GoSem.ClaimSeven
namespace Go.Proofs.YtacgabagfdlpeaaGreatDoor
namespace Rows

/-- THE TIED CARD OF 'pacemakerlaw42.WorldLines'. -/
def worldLinesCard : Claim7 := { stood := { row := worldLinesRow, standIns := [], harness := (true, "b52455a0b44be5a341e173aef7810f3ef4be28a06786c8491319f7a6acb1bfa8"), looks := true }, kinds := [], alts := [], laidByText := true, laidKinds := [.data, .pinned], laidTests := true, laidLooks := .later }
def WorldLinesCardSaid : Prop := Claim7.holds Tryz.pinned (.plain (OpenSpec.ofChange worldLinesSpec)) worldLinesCard

/-- THE SECOND FORM's CARD OF 'pacemakerlaw42.WorldLines'. -/
def worldLinesUptoCard : Claim7 := { stood := { row := worldLinesUptoRow, standIns := [], harness := (true, "b52455a0b44be5a341e173aef7810f3ef4be28a06786c8491319f7a6acb1bfa8"), looks := true }, kinds := [], alts := [], laidByText := true, laidKinds := [.data, .pinned], laidTests := true, laidLooks := .later }
def WorldLinesUptoCardSaid : Prop := Claim7.holds Tryz.pinned (.plain (OpenSpec.upto worldLinesSpec)) worldLinesUptoCard
end Rows
end Go.Proofs.YtacgabagfdlpeaaGreatDoor
