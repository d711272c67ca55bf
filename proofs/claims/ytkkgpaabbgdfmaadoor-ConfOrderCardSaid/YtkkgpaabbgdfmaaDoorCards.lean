/-
  DERIVED. GIVEN WITH THE SEED: THE CARDS: each row of YtkkgpaabbgdfmaaDoorRows.lean that lists a variable, with what it lists TIED to the program's text (the seventh form; the later family's looks); each row that meets fmt, with fmt's text TOLD by the authors' own Lean function (tested against real Go, not proved from fmt's source: count such statements apart). THE CARD IS WHAT COUNTS. Prove the row's statement (the work); the ties are given (YtkkgpaabbgdfmaaDoorTie.lean); close each card by the builder's one call (the guide's Derived/Test/ToyasCard.lean, 'card_holds'). Laid BY PROGRAM, IN A SANDBOX (cutbox-door.mjs). By AI agents, Wed Nov 11 2026. No macro, syntax, notation, axiom, sorry.
-/
import Derived.Test.YtkkgpaabbgdfmaaDoorRows
import GoSem.ClaimSeven
namespace Go.Proofs.YtkkgpaabbgdfmaaDoor
namespace Rows

/-- THE TIED CARD OF 'pacemakerlaw24.ConfPuts'. -/
def confPutsCard : Claim7 := { stood := { row := confPutsRow, standIns := [], harness := (true, "44e99a51425b2f101fddd8d1b96f94018bbb4580a7c5d7fbcbf683aadde252b2"), looks := true }, kinds := [], alts := [], laidByText := true, laidKinds := [.data, .pinned], laidTests := true, laidLooks := .later }
def ConfPutsCardSaid : Prop := Claim7.holds Tryd.pinned (.plain (OpenSpec.ofChange confPutsSpec)) confPutsCard

/-- THE TIED CARD OF 'pacemakerlaw24.ConfReads'. -/
def confReadsCard : Claim7 := { stood := { row := confReadsRow, standIns := [], harness := (true, "44e99a51425b2f101fddd8d1b96f94018bbb4580a7c5d7fbcbf683aadde252b2"), looks := true }, kinds := [], alts := [], laidByText := true, laidKinds := [.data, .pinned], laidTests := true, laidLooks := .later }
def ConfReadsCardSaid : Prop := Claim7.holds Tryd.pinned (.plain (OpenSpec.ofChange confReadsSpec)) confReadsCard

/-- THE TIED CARD OF 'pacemakerlaw24.ConfBlind'. -/
def confBlindCard : Claim7 := { stood := { row := confBlindRow, standIns := [], harness := (true, "44e99a51425b2f101fddd8d1b96f94018bbb4580a7c5d7fbcbf683aadde252b2"), looks := true }, kinds := [], alts := [], laidByText := true, laidKinds := [.data, .pinned], laidTests := true, laidLooks := .later }
def ConfBlindCardSaid : Prop := Claim7.holds Tryd.pinned (.plain (OpenSpec.ofChange confBlindSpec)) confBlindCard

/-- THE TIED CARD OF 'pacemakerlaw24.ConfOrder'. -/
def confOrderCard : Claim7 := { stood := { row := confOrderRow, standIns := [], harness := (true, "44e99a51425b2f101fddd8d1b96f94018bbb4580a7c5d7fbcbf683aadde252b2"), looks := true }, kinds := [], alts := [], laidByText := true, laidKinds := [.data, .pinned], laidTests := true, laidLooks := .later }
def ConfOrderCardSaid : Prop := Claim7.holds Tryd.pinned (.plain (OpenSpec.ofChange confOrderSpec)) confOrderCard

/-- THE SECOND FORM's CARD OF 'pacemakerlaw24.ConfPuts'. -/
def confPutsUptoCard : Claim7 := { stood := { row := confPutsUptoRow, standIns := [], harness := (true, "44e99a51425b2f101fddd8d1b96f94018bbb4580a7c5d7fbcbf683aadde252b2"), looks := true }, kinds := [], alts := [], laidByText := true, laidKinds := [.data, .pinned], laidTests := true, laidLooks := .later }
def ConfPutsUptoCardSaid : Prop := Claim7.holds Tryd.pinned (.plain (OpenSpec.upto confPutsSpec)) confPutsUptoCard

/-- THE SECOND FORM's CARD OF 'pacemakerlaw24.ConfReads'. -/
def confReadsUptoCard : Claim7 := { stood := { row := confReadsUptoRow, standIns := [], harness := (true, "44e99a51425b2f101fddd8d1b96f94018bbb4580a7c5d7fbcbf683aadde252b2"), looks := true }, kinds := [], alts := [], laidByText := true, laidKinds := [.data, .pinned], laidTests := true, laidLooks := .later }
def ConfReadsUptoCardSaid : Prop := Claim7.holds Tryd.pinned (.plain (OpenSpec.upto confReadsSpec)) confReadsUptoCard

/-- THE SECOND FORM's CARD OF 'pacemakerlaw24.ConfBlind'. -/
def confBlindUptoCard : Claim7 := { stood := { row := confBlindUptoRow, standIns := [], harness := (true, "44e99a51425b2f101fddd8d1b96f94018bbb4580a7c5d7fbcbf683aadde252b2"), looks := true }, kinds := [], alts := [], laidByText := true, laidKinds := [.data, .pinned], laidTests := true, laidLooks := .later }
def ConfBlindUptoCardSaid : Prop := Claim7.holds Tryd.pinned (.plain (OpenSpec.upto confBlindSpec)) confBlindUptoCard

/-- THE SECOND FORM's CARD OF 'pacemakerlaw24.ConfOrder'. -/
def confOrderUptoCard : Claim7 := { stood := { row := confOrderUptoRow, standIns := [], harness := (true, "44e99a51425b2f101fddd8d1b96f94018bbb4580a7c5d7fbcbf683aadde252b2"), looks := true }, kinds := [], alts := [], laidByText := true, laidKinds := [.data, .pinned], laidTests := true, laidLooks := .later }
def ConfOrderUptoCardSaid : Prop := Claim7.holds Tryd.pinned (.plain (OpenSpec.upto confOrderSpec)) confOrderUptoCard
end Rows
end Go.Proofs.YtkkgpaabbgdfmaaDoor
