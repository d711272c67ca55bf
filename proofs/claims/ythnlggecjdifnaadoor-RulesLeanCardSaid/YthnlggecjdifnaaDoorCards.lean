/-
  DERIVED. GIVEN WITH THE SEED: THE CARDS: each row of YthnlggecjdifnaaDoorRows.lean that lists a variable, with what it lists TIED to the program's text (the seventh form; the later family's looks); each row that meets fmt, with fmt's text TOLD by the authors' own Lean function (tested against real Go, not proved from fmt's source: count such statements apart). THE CARD IS WHAT COUNTS. Prove the row's statement (the work); the ties are given (YthnlggecjdifnaaDoorTie.lean); close each card by the builder's one call (the guide's Derived/Test/ToyasCard.lean, 'card_holds'). Laid BY PROGRAM, IN A SANDBOX (cutbox-door.mjs). By AI agents, Wed Nov 11 2026. No macro, syntax, notation, axiom, sorry.
-/
import Derived.Test.YthnlggecjdifnaaDoorRows
import GoSem.ClaimSeven
namespace Go.Proofs.YthnlggecjdifnaaDoor
namespace Rows

/-- THE TIED CARD OF 'pacemakerlaw34.RulesBehind'. -/
def rulesBehindCard : Claim7 := { stood := { row := rulesBehindRow, standIns := [], harness := (true, "e787afbbf1aae51f4ca0436ea8de9ee1f26acadbf9e06aa08c46f599b4ce0239"), looks := false }, kinds := [], alts := [], laidByText := true, laidKinds := [.data], laidTests := true, laidLooks := .later }
def RulesBehindCardSaid : Prop := Claim7.holds Tryd.pinned (.plain (OpenSpec.ofChange rulesBehindSpec)) rulesBehindCard

/-- THE TIED CARD OF 'pacemakerlaw34.RulesNobody'. -/
def rulesNobodyCard : Claim7 := { stood := { row := rulesNobodyRow, standIns := [], harness := (true, "e787afbbf1aae51f4ca0436ea8de9ee1f26acadbf9e06aa08c46f599b4ce0239"), looks := false }, kinds := [], alts := [], laidByText := true, laidKinds := [.data], laidTests := true, laidLooks := .later }
def RulesNobodyCardSaid : Prop := Claim7.holds Tryd.pinned (.plain (OpenSpec.ofChange rulesNobodySpec)) rulesNobodyCard

/-- THE TIED CARD OF 'pacemakerlaw34.RulesFind'. -/
def rulesFindCard : Claim7 := { stood := { row := rulesFindRow, standIns := [], harness := (true, "e787afbbf1aae51f4ca0436ea8de9ee1f26acadbf9e06aa08c46f599b4ce0239"), looks := false }, kinds := [], alts := [], laidByText := true, laidKinds := [.data], laidTests := true, laidLooks := .later }
def RulesFindCardSaid : Prop := Claim7.holds Tryd.pinned (.plain (OpenSpec.ofChange rulesFindSpec)) rulesFindCard

/-- THE TIED CARD OF 'pacemakerlaw34.RulesLean'. -/
def rulesLeanCard : Claim7 := { stood := { row := rulesLeanRow, standIns := [], harness := (true, "e787afbbf1aae51f4ca0436ea8de9ee1f26acadbf9e06aa08c46f599b4ce0239"), looks := false }, kinds := [], alts := [], laidByText := true, laidKinds := [.data], laidTests := true, laidLooks := .later }
def RulesLeanCardSaid : Prop := Claim7.holds Tryd.pinned (.plain (OpenSpec.ofChange rulesLeanSpec)) rulesLeanCard

/-- THE SECOND FORM's CARD OF 'pacemakerlaw34.RulesBehind'. -/
def rulesBehindUptoCard : Claim7 := { stood := { row := rulesBehindUptoRow, standIns := [], harness := (true, "e787afbbf1aae51f4ca0436ea8de9ee1f26acadbf9e06aa08c46f599b4ce0239"), looks := false }, kinds := [], alts := [], laidByText := true, laidKinds := [.data], laidTests := true, laidLooks := .later }
def RulesBehindUptoCardSaid : Prop := Claim7.holds Tryd.pinned (.plain (OpenSpec.upto rulesBehindSpec)) rulesBehindUptoCard

/-- THE SECOND FORM's CARD OF 'pacemakerlaw34.RulesNobody'. -/
def rulesNobodyUptoCard : Claim7 := { stood := { row := rulesNobodyUptoRow, standIns := [], harness := (true, "e787afbbf1aae51f4ca0436ea8de9ee1f26acadbf9e06aa08c46f599b4ce0239"), looks := false }, kinds := [], alts := [], laidByText := true, laidKinds := [.data], laidTests := true, laidLooks := .later }
def RulesNobodyUptoCardSaid : Prop := Claim7.holds Tryd.pinned (.plain (OpenSpec.upto rulesNobodySpec)) rulesNobodyUptoCard

/-- THE SECOND FORM's CARD OF 'pacemakerlaw34.RulesFind'. -/
def rulesFindUptoCard : Claim7 := { stood := { row := rulesFindUptoRow, standIns := [], harness := (true, "e787afbbf1aae51f4ca0436ea8de9ee1f26acadbf9e06aa08c46f599b4ce0239"), looks := false }, kinds := [], alts := [], laidByText := true, laidKinds := [.data], laidTests := true, laidLooks := .later }
def RulesFindUptoCardSaid : Prop := Claim7.holds Tryd.pinned (.plain (OpenSpec.upto rulesFindSpec)) rulesFindUptoCard

/-- THE SECOND FORM's CARD OF 'pacemakerlaw34.RulesLean'. -/
def rulesLeanUptoCard : Claim7 := { stood := { row := rulesLeanUptoRow, standIns := [], harness := (true, "e787afbbf1aae51f4ca0436ea8de9ee1f26acadbf9e06aa08c46f599b4ce0239"), looks := false }, kinds := [], alts := [], laidByText := true, laidKinds := [.data], laidTests := true, laidLooks := .later }
def RulesLeanUptoCardSaid : Prop := Claim7.holds Tryd.pinned (.plain (OpenSpec.upto rulesLeanSpec)) rulesLeanUptoCard
end Rows
end Go.Proofs.YthnlggecjdifnaaDoor
