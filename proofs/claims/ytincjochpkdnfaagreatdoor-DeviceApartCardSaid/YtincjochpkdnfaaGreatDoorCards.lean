/-
  DERIVED. GIVEN WITH THE SEED: THE CARDS: each row of YtincjochpkdnfaaGreatDoorRows.lean that lists a variable, with what it lists TIED to the program's text (the seventh form; the later family's looks); each row that meets fmt, with fmt's text TOLD by the authors' own Lean function (tested against real Go, not proved from fmt's source: count such statements apart). THE CARD IS WHAT COUNTS. Prove the row's statement (the work); the ties are given (YtincjochpkdnfaaGreatDoorTie.lean); close each card by the builder's one call (the guide's Derived/Test/ToyasCard.lean, 'card_holds'). Laid BY PROGRAM, IN A SANDBOX (cutbox-door.mjs). By AI agents, Wed Nov 11 2026. No macro, syntax, notation, axiom, sorry.
-/
import Derived.Test.YtincjochpkdnfaaGreatDoorRows
import GoSem.ClaimSeven
namespace Go.Proofs.YtincjochpkdnfaaGreatDoor
namespace Rows

/-- THE TIED CARD OF 'pacemakerlaw37.DeviceApart'. -/
def deviceApartCard : Claim7 := { stood := { row := deviceApartRow, standIns := [], harness := (true, "833f8505d4eada3b9716e5400aaaca5ba0c60f668f198bfb308206388aee2d70"), looks := false }, kinds := [], alts := [], laidByText := true, laidKinds := [.data], laidTests := true, laidLooks := .later }
def DeviceApartCardSaid : Prop := Claim7.holds Tryz.pinned (.plain (OpenSpec.ofChange deviceApartSpec)) deviceApartCard

/-- THE TIED CARD OF 'pacemakerlaw37.DeviceKeeps'. -/
def deviceKeepsCard : Claim7 := { stood := { row := deviceKeepsRow, standIns := [], harness := (true, "833f8505d4eada3b9716e5400aaaca5ba0c60f668f198bfb308206388aee2d70"), looks := false }, kinds := [], alts := [], laidByText := true, laidKinds := [.data], laidTests := true, laidLooks := .later }
def DeviceKeepsCardSaid : Prop := Claim7.holds Tryz.pinned (.plain (OpenSpec.ofChange deviceKeepsSpec)) deviceKeepsCard

/-- THE SECOND FORM's CARD OF 'pacemakerlaw37.DeviceApart'. -/
def deviceApartUptoCard : Claim7 := { stood := { row := deviceApartUptoRow, standIns := [], harness := (true, "833f8505d4eada3b9716e5400aaaca5ba0c60f668f198bfb308206388aee2d70"), looks := false }, kinds := [], alts := [], laidByText := true, laidKinds := [.data], laidTests := true, laidLooks := .later }
def DeviceApartUptoCardSaid : Prop := Claim7.holds Tryz.pinned (.plain (OpenSpec.upto deviceApartSpec)) deviceApartUptoCard

/-- THE SECOND FORM's CARD OF 'pacemakerlaw37.DeviceKeeps'. -/
def deviceKeepsUptoCard : Claim7 := { stood := { row := deviceKeepsUptoRow, standIns := [], harness := (true, "833f8505d4eada3b9716e5400aaaca5ba0c60f668f198bfb308206388aee2d70"), looks := false }, kinds := [], alts := [], laidByText := true, laidKinds := [.data], laidTests := true, laidLooks := .later }
def DeviceKeepsUptoCardSaid : Prop := Claim7.holds Tryz.pinned (.plain (OpenSpec.upto deviceKeepsSpec)) deviceKeepsUptoCard
end Rows
end Go.Proofs.YtincjochpkdnfaaGreatDoor
