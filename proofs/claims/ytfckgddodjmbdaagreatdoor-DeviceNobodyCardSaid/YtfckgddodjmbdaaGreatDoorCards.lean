/-
  DERIVED. GIVEN WITH THE SEED: THE CARDS: each row of YtfckgddodjmbdaaGreatDoorRows.lean that lists a variable, with what it lists TIED to the program's text (the seventh form; the later family's looks); each row that meets fmt, with fmt's text TOLD by the authors' own Lean function (tested against real Go, not proved from fmt's source: count such statements apart). THE CARD IS WHAT COUNTS. Prove the row's statement (the work); the ties are given (YtfckgddodjmbdaaGreatDoorTie.lean); close each card by the builder's one call (the guide's Derived/Test/ToyasCard.lean, 'card_holds'). Laid BY PROGRAM, IN A SANDBOX (cutbox-door.mjs). By AI agents, Wed Nov 11 2026. No macro, syntax, notation, axiom, sorry.
-/
import Derived.Test.YtfckgddodjmbdaaGreatDoorRows
import GoSem.ClaimSeven
namespace Go.Proofs.YtfckgddodjmbdaaGreatDoor
namespace Rows

/-- THE TIED CARD OF 'pacemakerlaw36.PortNobody'. -/
def portNobodyCard : Claim7 := { stood := { row := portNobodyRow, standIns := [], harness := (true, "32f4f5d5a1a16626ecec5f107de5e0989d903c14cdce51cb008aab76f1b53d72"), looks := false }, kinds := [], alts := [], laidByText := true, laidKinds := [.data], laidTests := true, laidLooks := .later }
def PortNobodyCardSaid : Prop := Claim7.holds Tryz.pinned (.plain (OpenSpec.ofChange portNobodySpec)) portNobodyCard

/-- THE TIED CARD OF 'pacemakerlaw37.DeviceNobody'. -/
def deviceNobodyCard : Claim7 := { stood := { row := deviceNobodyRow, standIns := [], harness := (true, "32f4f5d5a1a16626ecec5f107de5e0989d903c14cdce51cb008aab76f1b53d72"), looks := false }, kinds := [], alts := [], laidByText := true, laidKinds := [.data], laidTests := true, laidLooks := .later }
def DeviceNobodyCardSaid : Prop := Claim7.holds Tryz.pinned (.plain (OpenSpec.ofChange deviceNobodySpec)) deviceNobodyCard

/-- THE SECOND FORM's CARD OF 'pacemakerlaw36.PortNobody'. -/
def portNobodyUptoCard : Claim7 := { stood := { row := portNobodyUptoRow, standIns := [], harness := (true, "32f4f5d5a1a16626ecec5f107de5e0989d903c14cdce51cb008aab76f1b53d72"), looks := false }, kinds := [], alts := [], laidByText := true, laidKinds := [.data], laidTests := true, laidLooks := .later }
def PortNobodyUptoCardSaid : Prop := Claim7.holds Tryz.pinned (.plain (OpenSpec.upto portNobodySpec)) portNobodyUptoCard

/-- THE SECOND FORM's CARD OF 'pacemakerlaw37.DeviceNobody'. -/
def deviceNobodyUptoCard : Claim7 := { stood := { row := deviceNobodyUptoRow, standIns := [], harness := (true, "32f4f5d5a1a16626ecec5f107de5e0989d903c14cdce51cb008aab76f1b53d72"), looks := false }, kinds := [], alts := [], laidByText := true, laidKinds := [.data], laidTests := true, laidLooks := .later }
def DeviceNobodyUptoCardSaid : Prop := Claim7.holds Tryz.pinned (.plain (OpenSpec.upto deviceNobodySpec)) deviceNobodyUptoCard
end Rows
end Go.Proofs.YtfckgddodjmbdaaGreatDoor
