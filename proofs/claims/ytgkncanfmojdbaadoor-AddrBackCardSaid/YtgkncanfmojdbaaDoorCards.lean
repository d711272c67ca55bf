/-
  DERIVED. GIVEN WITH THE SEED: THE CARDS: each row of YtgkncanfmojdbaaDoorRows.lean that lists a variable, with what it lists TIED to the program's text (the seventh form; the later family's looks); each row that meets fmt, with fmt's text TOLD by the authors' own Lean function (tested against real Go, not proved from fmt's source: count such statements apart). THE CARD IS WHAT COUNTS. Prove the row's statement (the work); the ties are given (YtgkncanfmojdbaaDoorTie.lean); close each card by the builder's one call (the guide's Derived/Test/ToyasCard.lean, 'card_holds'). Laid BY PROGRAM, IN A SANDBOX (cutbox-door.mjs). By AI agents, Wed Nov 11 2026. No macro, syntax, notation, axiom, sorry.
-/
import Derived.Test.YtgkncanfmojdbaaDoorRows
import GoSem.ClaimSeven
namespace Go.Proofs.YtgkncanfmojdbaaDoor
namespace Rows

/-- THE TIED CARD OF 'pacemakerlaw31.AddrReads'. -/
def addrReadsCard : Claim7 := { stood := { row := addrReadsRow, standIns := [], harness := (true, "d6eb77dbc8793b1e55061bef10c24241cfec95b67bf784992dcf9e76c7251dc0"), looks := false }, kinds := [], alts := [], laidByText := true, laidKinds := [.data, .pinned], laidTests := true, laidLooks := .later }
def AddrReadsCardSaid : Prop := Claim7.holds Tryd.pinned (.plain (OpenSpec.ofChange addrReadsSpec)) addrReadsCard

/-- THE TIED CARD OF 'pacemakerlaw31.AddrHas'. -/
def addrHasCard : Claim7 := { stood := { row := addrHasRow, standIns := [], harness := (true, "d6eb77dbc8793b1e55061bef10c24241cfec95b67bf784992dcf9e76c7251dc0"), looks := false }, kinds := [], alts := [], laidByText := true, laidKinds := [.data, .pinned], laidTests := true, laidLooks := .later }
def AddrHasCardSaid : Prop := Claim7.holds Tryd.pinned (.plain (OpenSpec.ofChange addrHasSpec)) addrHasCard

/-- THE TIED CARD OF 'pacemakerlaw31.AddrApart'. -/
def addrApartCard : Claim7 := { stood := { row := addrApartRow, standIns := [], harness := (true, "d6eb77dbc8793b1e55061bef10c24241cfec95b67bf784992dcf9e76c7251dc0"), looks := false }, kinds := [], alts := [], laidByText := true, laidKinds := [.data, .pinned], laidTests := true, laidLooks := .later }
def AddrApartCardSaid : Prop := Claim7.holds Tryd.pinned (.plain (OpenSpec.ofChange addrApartSpec)) addrApartCard

/-- THE TIED CARD OF 'pacemakerlaw31.AddrBack'. -/
def addrBackCard : Claim7 := { stood := { row := addrBackRow, standIns := [], harness := (true, "d6eb77dbc8793b1e55061bef10c24241cfec95b67bf784992dcf9e76c7251dc0"), looks := false }, kinds := [], alts := [], laidByText := true, laidKinds := [.data, .pinned], laidTests := true, laidLooks := .later }
def AddrBackCardSaid : Prop := Claim7.holds Tryd.pinned (.plain (OpenSpec.ofChange addrBackSpec)) addrBackCard

/-- THE SECOND FORM's CARD OF 'pacemakerlaw31.AddrReads'. -/
def addrReadsUptoCard : Claim7 := { stood := { row := addrReadsUptoRow, standIns := [], harness := (true, "d6eb77dbc8793b1e55061bef10c24241cfec95b67bf784992dcf9e76c7251dc0"), looks := false }, kinds := [], alts := [], laidByText := true, laidKinds := [.data, .pinned], laidTests := true, laidLooks := .later }
def AddrReadsUptoCardSaid : Prop := Claim7.holds Tryd.pinned (.plain (OpenSpec.upto addrReadsSpec)) addrReadsUptoCard

/-- THE SECOND FORM's CARD OF 'pacemakerlaw31.AddrHas'. -/
def addrHasUptoCard : Claim7 := { stood := { row := addrHasUptoRow, standIns := [], harness := (true, "d6eb77dbc8793b1e55061bef10c24241cfec95b67bf784992dcf9e76c7251dc0"), looks := false }, kinds := [], alts := [], laidByText := true, laidKinds := [.data, .pinned], laidTests := true, laidLooks := .later }
def AddrHasUptoCardSaid : Prop := Claim7.holds Tryd.pinned (.plain (OpenSpec.upto addrHasSpec)) addrHasUptoCard

/-- THE SECOND FORM's CARD OF 'pacemakerlaw31.AddrApart'. -/
def addrApartUptoCard : Claim7 := { stood := { row := addrApartUptoRow, standIns := [], harness := (true, "d6eb77dbc8793b1e55061bef10c24241cfec95b67bf784992dcf9e76c7251dc0"), looks := false }, kinds := [], alts := [], laidByText := true, laidKinds := [.data, .pinned], laidTests := true, laidLooks := .later }
def AddrApartUptoCardSaid : Prop := Claim7.holds Tryd.pinned (.plain (OpenSpec.upto addrApartSpec)) addrApartUptoCard

/-- THE SECOND FORM's CARD OF 'pacemakerlaw31.AddrBack'. -/
def addrBackUptoCard : Claim7 := { stood := { row := addrBackUptoRow, standIns := [], harness := (true, "d6eb77dbc8793b1e55061bef10c24241cfec95b67bf784992dcf9e76c7251dc0"), looks := false }, kinds := [], alts := [], laidByText := true, laidKinds := [.data, .pinned], laidTests := true, laidLooks := .later }
def AddrBackUptoCardSaid : Prop := Claim7.holds Tryd.pinned (.plain (OpenSpec.upto addrBackSpec)) addrBackUptoCard
end Rows
end Go.Proofs.YtgkncanfmojdbaaDoor
