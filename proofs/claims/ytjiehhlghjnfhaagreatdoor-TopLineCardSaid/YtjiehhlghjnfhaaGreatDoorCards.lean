/-
  DERIVED. GIVEN WITH THE SEED: THE CARDS: each row of YtjiehhlghjnfhaaGreatDoorRows.lean that lists a variable, with what it lists TIED to the program's text (the seventh form; the later family's looks); each row that meets fmt, with fmt's text TOLD by the authors' own Lean function (tested against real Go, not proved from fmt's source: count such statements apart). THE CARD IS WHAT COUNTS. Prove the row's statement (the work); the ties are given (YtjiehhlghjnfhaaGreatDoorTie.lean); close each card by the builder's one call (the guide's Derived/Test/ToyasCard.lean, 'card_holds'). Laid BY PROGRAM, IN A SANDBOX (cutbox-door.mjs). By AI agents, Wed Nov 11 2026. No macro, syntax, notation, axiom, sorry.
-/
import Derived.Test.YtjiehhlghjnfhaaGreatDoorRows
import GoSem.ClaimSeven
namespace Go.Proofs.YtjiehhlghjnfhaaGreatDoor
namespace Rows

/-- THE TIED CARD OF 'pacemakerlaw36.PortPlays'. -/
def portPlaysCard : Claim7 := { stood := { row := portPlaysRow, standIns := [], harness := (true, "11c1efd7536a9ae71d92c0f4eeae89007d4efdc6cf6d223f39ba4014bf24fc37"), looks := false }, kinds := [], alts := [], laidByText := true, laidKinds := [.data], laidTests := true, laidLooks := .later }
def PortPlaysCardSaid : Prop := Claim7.holds Tryz.pinned (.plain (OpenSpec.ofChange portPlaysSpec)) portPlaysCard

/-- THE TIED CARD OF 'pacemakerlaw37.DeviceApart'. -/
def deviceApartCard : Claim7 := { stood := { row := deviceApartRow, standIns := [], harness := (true, "11c1efd7536a9ae71d92c0f4eeae89007d4efdc6cf6d223f39ba4014bf24fc37"), looks := false }, kinds := [], alts := [], laidByText := true, laidKinds := [.data], laidTests := true, laidLooks := .later }
def DeviceApartCardSaid : Prop := Claim7.holds Tryz.pinned (.plain (OpenSpec.ofChange deviceApartSpec)) deviceApartCard

/-- THE TIED CARD OF 'pacemakerlaw37.DevicePlays'. -/
def devicePlaysCard : Claim7 := { stood := { row := devicePlaysRow, standIns := [], harness := (true, "11c1efd7536a9ae71d92c0f4eeae89007d4efdc6cf6d223f39ba4014bf24fc37"), looks := false }, kinds := [], alts := [], laidByText := true, laidKinds := [.data], laidTests := true, laidLooks := .later }
def DevicePlaysCardSaid : Prop := Claim7.holds Tryz.pinned (.plain (OpenSpec.ofChange devicePlaysSpec)) devicePlaysCard

/-- THE TIED CARD OF 'pacemakerlaw37.DeviceKeeps'. -/
def deviceKeepsCard : Claim7 := { stood := { row := deviceKeepsRow, standIns := [], harness := (true, "11c1efd7536a9ae71d92c0f4eeae89007d4efdc6cf6d223f39ba4014bf24fc37"), looks := false }, kinds := [], alts := [], laidByText := true, laidKinds := [.data], laidTests := true, laidLooks := .later }
def DeviceKeepsCardSaid : Prop := Claim7.holds Tryz.pinned (.plain (OpenSpec.ofChange deviceKeepsSpec)) deviceKeepsCard

/-- THE TIED CARD OF 'pacemakertop.TopLine'. -/
def topLineCard : Claim7 := { stood := { row := topLineRow, standIns := [], harness := (true, "11c1efd7536a9ae71d92c0f4eeae89007d4efdc6cf6d223f39ba4014bf24fc37"), looks := false }, kinds := [], alts := [], laidByText := true, laidKinds := [.data], laidTests := true, laidLooks := .later }
def TopLineCardSaid : Prop := Claim7.holds Tryz.pinned (.plain (OpenSpec.ofChange topLineSpec)) topLineCard

/-- THE SECOND FORM's CARD OF 'pacemakerlaw36.PortPlays'. -/
def portPlaysUptoCard : Claim7 := { stood := { row := portPlaysUptoRow, standIns := [], harness := (true, "11c1efd7536a9ae71d92c0f4eeae89007d4efdc6cf6d223f39ba4014bf24fc37"), looks := false }, kinds := [], alts := [], laidByText := true, laidKinds := [.data], laidTests := true, laidLooks := .later }
def PortPlaysUptoCardSaid : Prop := Claim7.holds Tryz.pinned (.plain (OpenSpec.upto portPlaysSpec)) portPlaysUptoCard

/-- THE SECOND FORM's CARD OF 'pacemakerlaw37.DeviceApart'. -/
def deviceApartUptoCard : Claim7 := { stood := { row := deviceApartUptoRow, standIns := [], harness := (true, "11c1efd7536a9ae71d92c0f4eeae89007d4efdc6cf6d223f39ba4014bf24fc37"), looks := false }, kinds := [], alts := [], laidByText := true, laidKinds := [.data], laidTests := true, laidLooks := .later }
def DeviceApartUptoCardSaid : Prop := Claim7.holds Tryz.pinned (.plain (OpenSpec.upto deviceApartSpec)) deviceApartUptoCard

/-- THE SECOND FORM's CARD OF 'pacemakerlaw37.DevicePlays'. -/
def devicePlaysUptoCard : Claim7 := { stood := { row := devicePlaysUptoRow, standIns := [], harness := (true, "11c1efd7536a9ae71d92c0f4eeae89007d4efdc6cf6d223f39ba4014bf24fc37"), looks := false }, kinds := [], alts := [], laidByText := true, laidKinds := [.data], laidTests := true, laidLooks := .later }
def DevicePlaysUptoCardSaid : Prop := Claim7.holds Tryz.pinned (.plain (OpenSpec.upto devicePlaysSpec)) devicePlaysUptoCard

/-- THE SECOND FORM's CARD OF 'pacemakerlaw37.DeviceKeeps'. -/
def deviceKeepsUptoCard : Claim7 := { stood := { row := deviceKeepsUptoRow, standIns := [], harness := (true, "11c1efd7536a9ae71d92c0f4eeae89007d4efdc6cf6d223f39ba4014bf24fc37"), looks := false }, kinds := [], alts := [], laidByText := true, laidKinds := [.data], laidTests := true, laidLooks := .later }
def DeviceKeepsUptoCardSaid : Prop := Claim7.holds Tryz.pinned (.plain (OpenSpec.upto deviceKeepsSpec)) deviceKeepsUptoCard

/-- THE SECOND FORM's CARD OF 'pacemakertop.TopLine'. -/
def topLineUptoCard : Claim7 := { stood := { row := topLineUptoRow, standIns := [], harness := (true, "11c1efd7536a9ae71d92c0f4eeae89007d4efdc6cf6d223f39ba4014bf24fc37"), looks := false }, kinds := [], alts := [], laidByText := true, laidKinds := [.data], laidTests := true, laidLooks := .later }
def TopLineUptoCardSaid : Prop := Claim7.holds Tryz.pinned (.plain (OpenSpec.upto topLineSpec)) topLineUptoCard
end Rows
end Go.Proofs.YtjiehhlghjnfhaaGreatDoor
