/-
  DERIVED. GIVEN WITH THE SEED: THE CARDS: each row of YtoiiofcpohoeaaaDoorRows.lean that lists a variable, with what it lists TIED to the program's text (the seventh form; the later family's looks); each row that meets fmt, with fmt's text TOLD by the authors' own Lean function (tested against real Go, not proved from fmt's source: count such statements apart). THE CARD IS WHAT COUNTS. Prove the row's statement (the work); the ties are given (YtoiiofcpohoeaaaDoorTie.lean); close each card by the builder's one call (the guide's Derived/Test/ToyasCard.lean, 'card_holds'). Laid BY PROGRAM, IN A SANDBOX (cutbox-door.mjs). By AI agents, Wed Nov 11 2026. No macro, syntax, notation, axiom, sorry.
-/
import Derived.Test.YtoiiofcpohoeaaaDoorRows
import GoSem.ClaimSeven
namespace Go.Proofs.YtoiiofcpohoeaaaDoor
namespace Rows

/-- THE TIED CARD OF 'pacemakerlaw08.FfsPlays'. -/
def ffsPlaysCard : Claim7 := { stood := { row := ffsPlaysRow, standIns := [], harness := (true, "80ec16c58b2b5e854662b1e663c07c44bfe2d3d2ad62563b662677f76b064f79"), looks := false }, kinds := [], alts := [], laidByText := true, laidKinds := [.data], laidTests := true, laidLooks := .later }
def FfsPlaysCardSaid : Prop := Claim7.holds Tryd.pinned (.plain (OpenSpec.ofChange ffsPlaysSpec)) ffsPlaysCard

/-- THE TIED CARD OF 'pacemakerlaw08.FfsRound'. -/
def ffsRoundCard : Claim7 := { stood := { row := ffsRoundRow, standIns := [], harness := (true, "80ec16c58b2b5e854662b1e663c07c44bfe2d3d2ad62563b662677f76b064f79"), looks := false }, kinds := [], alts := [], laidByText := true, laidKinds := [.data], laidTests := true, laidLooks := .later }
def FfsRoundCardSaid : Prop := Claim7.holds Tryd.pinned (.plain (OpenSpec.ofChange ffsRoundSpec)) ffsRoundCard

/-- THE TIED CARD OF 'pacemakerlaw08.FfsNobody'. -/
def ffsNobodyCard : Claim7 := { stood := { row := ffsNobodyRow, standIns := [], harness := (true, "80ec16c58b2b5e854662b1e663c07c44bfe2d3d2ad62563b662677f76b064f79"), looks := false }, kinds := [], alts := [], laidByText := true, laidKinds := [.data], laidTests := true, laidLooks := .later }
def FfsNobodyCardSaid : Prop := Claim7.holds Tryd.pinned (.plain (OpenSpec.ofChange ffsNobodySpec)) ffsNobodyCard

/-- THE SECOND FORM's CARD OF 'pacemakerlaw08.FfsPlays'. -/
def ffsPlaysUptoCard : Claim7 := { stood := { row := ffsPlaysUptoRow, standIns := [], harness := (true, "80ec16c58b2b5e854662b1e663c07c44bfe2d3d2ad62563b662677f76b064f79"), looks := false }, kinds := [], alts := [], laidByText := true, laidKinds := [.data], laidTests := true, laidLooks := .later }
def FfsPlaysUptoCardSaid : Prop := Claim7.holds Tryd.pinned (.plain (OpenSpec.upto ffsPlaysSpec)) ffsPlaysUptoCard

/-- THE SECOND FORM's CARD OF 'pacemakerlaw08.FfsRound'. -/
def ffsRoundUptoCard : Claim7 := { stood := { row := ffsRoundUptoRow, standIns := [], harness := (true, "80ec16c58b2b5e854662b1e663c07c44bfe2d3d2ad62563b662677f76b064f79"), looks := false }, kinds := [], alts := [], laidByText := true, laidKinds := [.data], laidTests := true, laidLooks := .later }
def FfsRoundUptoCardSaid : Prop := Claim7.holds Tryd.pinned (.plain (OpenSpec.upto ffsRoundSpec)) ffsRoundUptoCard

/-- THE SECOND FORM's CARD OF 'pacemakerlaw08.FfsNobody'. -/
def ffsNobodyUptoCard : Claim7 := { stood := { row := ffsNobodyUptoRow, standIns := [], harness := (true, "80ec16c58b2b5e854662b1e663c07c44bfe2d3d2ad62563b662677f76b064f79"), looks := false }, kinds := [], alts := [], laidByText := true, laidKinds := [.data], laidTests := true, laidLooks := .later }
def FfsNobodyUptoCardSaid : Prop := Claim7.holds Tryd.pinned (.plain (OpenSpec.upto ffsNobodySpec)) ffsNobodyUptoCard
end Rows
end Go.Proofs.YtoiiofcpohoeaaaDoor
