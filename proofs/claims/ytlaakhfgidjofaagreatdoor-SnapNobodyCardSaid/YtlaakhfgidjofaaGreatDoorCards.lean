/-
  DERIVED. GIVEN WITH THE SEED: THE CARDS: each row of YtlaakhfgidjofaaGreatDoorRows.lean that lists a variable, with what it lists TIED to the program's text (the seventh form; the later family's looks); each row that meets fmt, with fmt's text TOLD by the authors' own Lean function (tested against real Go, not proved from fmt's source: count such statements apart). THE CARD IS WHAT COUNTS. Prove the row's statement (the work); the ties are given (YtlaakhfgidjofaaGreatDoorTie.lean); close each card by the builder's one call (the guide's Derived/Test/ToyasCard.lean, 'card_holds'). Laid BY PROGRAM, IN A SANDBOX (cutbox-door.mjs). By AI agents, Wed Nov 11 2026. No macro, syntax, notation, axiom, sorry.
-/
import Derived.Test.YtlaakhfgidjofaaGreatDoorRows
import GoSem.ClaimSeven
namespace Go.Proofs.YtlaakhfgidjofaaGreatDoor
namespace Rows

/-- THE TIED CARD OF 'pacemakerlaw40.SnapPuts'. -/
def snapPutsCard : Claim7 := { stood := { row := snapPutsRow, standIns := [], harness := (true, "276b19249a5525f891f44fcc39de616b22bea85556124f46f45021d6e26afd56"), looks := true }, kinds := [], alts := [], laidByText := true, laidKinds := [.data, .pinned], laidTests := true, laidLooks := .later }
def SnapPutsCardSaid : Prop := Claim7.holds Tryz.pinned (.plain (OpenSpec.ofChange snapPutsSpec)) snapPutsCard

/-- THE TIED CARD OF 'pacemakerlaw40.SnapNobody'. -/
def snapNobodyCard : Claim7 := { stood := { row := snapNobodyRow, standIns := [], harness := (true, "276b19249a5525f891f44fcc39de616b22bea85556124f46f45021d6e26afd56"), looks := true }, kinds := [], alts := [], laidByText := true, laidKinds := [.data, .pinned], laidTests := true, laidLooks := .later }
def SnapNobodyCardSaid : Prop := Claim7.holds Tryz.pinned (.plain (OpenSpec.ofChange snapNobodySpec)) snapNobodyCard

/-- THE SECOND FORM's CARD OF 'pacemakerlaw40.SnapPuts'. -/
def snapPutsUptoCard : Claim7 := { stood := { row := snapPutsUptoRow, standIns := [], harness := (true, "276b19249a5525f891f44fcc39de616b22bea85556124f46f45021d6e26afd56"), looks := true }, kinds := [], alts := [], laidByText := true, laidKinds := [.data, .pinned], laidTests := true, laidLooks := .later }
def SnapPutsUptoCardSaid : Prop := Claim7.holds Tryz.pinned (.plain (OpenSpec.upto snapPutsSpec)) snapPutsUptoCard

/-- THE SECOND FORM's CARD OF 'pacemakerlaw40.SnapNobody'. -/
def snapNobodyUptoCard : Claim7 := { stood := { row := snapNobodyUptoRow, standIns := [], harness := (true, "276b19249a5525f891f44fcc39de616b22bea85556124f46f45021d6e26afd56"), looks := true }, kinds := [], alts := [], laidByText := true, laidKinds := [.data, .pinned], laidTests := true, laidLooks := .later }
def SnapNobodyUptoCardSaid : Prop := Claim7.holds Tryz.pinned (.plain (OpenSpec.upto snapNobodySpec)) snapNobodyUptoCard
end Rows
end Go.Proofs.YtlaakhfgidjofaaGreatDoor
