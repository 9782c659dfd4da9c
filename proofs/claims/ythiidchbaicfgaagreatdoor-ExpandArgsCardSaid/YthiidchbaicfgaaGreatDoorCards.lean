/-
  DERIVED. GIVEN WITH THE SEED: THE CARDS: each row of YthiidchbaicfgaaGreatDoorRows.lean that lists a variable, with what it lists TIED to the program's text (the seventh form; the later family's looks); each row that meets fmt, with fmt's text TOLD by the authors' own Lean function (tested against real Go, not proved from fmt's source: count such statements apart). THE CARD IS WHAT COUNTS. Prove the row's statement (the work); the ties are given (YthiidchbaicfgaaGreatDoorTie.lean); close each card by the builder's one call (the guide's Derived/Test/ToyasCard.lean, 'card_holds'). Laid BY PROGRAM, IN A SANDBOX (cutbox-door.mjs). By AI agents, Wed Nov 11 2026. No macro, syntax, notation, axiom, sorry.
-/
import Derived.Test.YthiidchbaicfgaaGreatDoorRows
import GoSem.ClaimSeven
namespace Go.Proofs.YthiidchbaicfgaaGreatDoor
namespace Rows

/-- THE TIED CARD OF 'rehearsallaw13.ExpandQuotes'. -/
def expandQuotesCard : Claim7 := { stood := { row := expandQuotesRow, standIns := [], harness := (true, "fbb1eca8205ba94542e8c34db8957d28a097eb80b2e7bd9079067efc0da48885"), looks := true }, kinds := [], alts := [], laidByText := true, laidKinds := [.data, .pinned], laidTests := true, laidLooks := .later }
def ExpandQuotesCardSaid : Prop := Claim7.holds Tryz.pinned (.plain (OpenSpec.ofChange expandQuotesSpec)) expandQuotesCard

/-- THE TIED CARD OF 'rehearsallaw13.ExpandArgs'. -/
def expandArgsCard : Claim7 := { stood := { row := expandArgsRow, standIns := [], harness := (true, "fbb1eca8205ba94542e8c34db8957d28a097eb80b2e7bd9079067efc0da48885"), looks := true }, kinds := [], alts := [], laidByText := true, laidKinds := [.data, .pinned], laidTests := true, laidLooks := .later }
def ExpandArgsCardSaid : Prop := Claim7.holds Tryz.pinned (.plain (OpenSpec.ofChange expandArgsSpec)) expandArgsCard

/-- THE TIED CARD OF 'rehearsallaw13.ExpandSplits'. -/
def expandSplitsCard : Claim7 := { stood := { row := expandSplitsRow, standIns := [], harness := (true, "fbb1eca8205ba94542e8c34db8957d28a097eb80b2e7bd9079067efc0da48885"), looks := true }, kinds := [], alts := [], laidByText := true, laidKinds := [.data, .pinned], laidTests := true, laidLooks := .later }
def ExpandSplitsCardSaid : Prop := Claim7.holds Tryz.pinned (.plain (OpenSpec.ofChange expandSplitsSpec)) expandSplitsCard

/-- THE TIED CARD OF 'rehearsallaw13.ExpandNobody'. -/
def expandNobodyCard : Claim7 := { stood := { row := expandNobodyRow, standIns := [], harness := (true, "fbb1eca8205ba94542e8c34db8957d28a097eb80b2e7bd9079067efc0da48885"), looks := true }, kinds := [], alts := [], laidByText := true, laidKinds := [.data, .pinned], laidTests := true, laidLooks := .later }
def ExpandNobodyCardSaid : Prop := Claim7.holds Tryz.pinned (.plain (OpenSpec.ofChange expandNobodySpec)) expandNobodyCard

/-- THE SECOND FORM's CARD OF 'rehearsallaw13.ExpandQuotes'. -/
def expandQuotesUptoCard : Claim7 := { stood := { row := expandQuotesUptoRow, standIns := [], harness := (true, "fbb1eca8205ba94542e8c34db8957d28a097eb80b2e7bd9079067efc0da48885"), looks := true }, kinds := [], alts := [], laidByText := true, laidKinds := [.data, .pinned], laidTests := true, laidLooks := .later }
def ExpandQuotesUptoCardSaid : Prop := Claim7.holds Tryz.pinned (.plain (OpenSpec.upto expandQuotesSpec)) expandQuotesUptoCard

/-- THE SECOND FORM's CARD OF 'rehearsallaw13.ExpandArgs'. -/
def expandArgsUptoCard : Claim7 := { stood := { row := expandArgsUptoRow, standIns := [], harness := (true, "fbb1eca8205ba94542e8c34db8957d28a097eb80b2e7bd9079067efc0da48885"), looks := true }, kinds := [], alts := [], laidByText := true, laidKinds := [.data, .pinned], laidTests := true, laidLooks := .later }
def ExpandArgsUptoCardSaid : Prop := Claim7.holds Tryz.pinned (.plain (OpenSpec.upto expandArgsSpec)) expandArgsUptoCard

/-- THE SECOND FORM's CARD OF 'rehearsallaw13.ExpandSplits'. -/
def expandSplitsUptoCard : Claim7 := { stood := { row := expandSplitsUptoRow, standIns := [], harness := (true, "fbb1eca8205ba94542e8c34db8957d28a097eb80b2e7bd9079067efc0da48885"), looks := true }, kinds := [], alts := [], laidByText := true, laidKinds := [.data, .pinned], laidTests := true, laidLooks := .later }
def ExpandSplitsUptoCardSaid : Prop := Claim7.holds Tryz.pinned (.plain (OpenSpec.upto expandSplitsSpec)) expandSplitsUptoCard

/-- THE SECOND FORM's CARD OF 'rehearsallaw13.ExpandNobody'. -/
def expandNobodyUptoCard : Claim7 := { stood := { row := expandNobodyUptoRow, standIns := [], harness := (true, "fbb1eca8205ba94542e8c34db8957d28a097eb80b2e7bd9079067efc0da48885"), looks := true }, kinds := [], alts := [], laidByText := true, laidKinds := [.data, .pinned], laidTests := true, laidLooks := .later }
def ExpandNobodyUptoCardSaid : Prop := Claim7.holds Tryz.pinned (.plain (OpenSpec.upto expandNobodySpec)) expandNobodyUptoCard
end Rows
end Go.Proofs.YthiidchbaicfgaaGreatDoor
