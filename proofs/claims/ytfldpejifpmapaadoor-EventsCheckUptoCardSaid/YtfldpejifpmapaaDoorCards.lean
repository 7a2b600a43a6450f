/-
  DERIVED. GIVEN WITH THE SEED: THE CARDS: each row of YtfldpejifpmapaaDoorRows.lean that lists a variable, with what it lists TIED to the program's text (the seventh form; the later family's looks); each row that meets fmt, with fmt's text TOLD by the authors' own Lean function (tested against real Go, not proved from fmt's source: count such statements apart). THE CARD IS WHAT COUNTS. Prove the row's statement (the work); the ties are given (YtfldpejifpmapaaDoorTie.lean); close each card by the builder's one call (the guide's Derived/Test/ToyasCard.lean, 'card_holds'). Laid BY PROGRAM, IN A SANDBOX (cutbox-door.mjs). By AI agents, Wed Nov 11 2026. No macro, syntax, notation, axiom, sorry.
-/
import Derived.Test.YtfldpejifpmapaaDoorRows
import GoSem.ClaimSeven
namespace Go.Proofs.YtfldpejifpmapaaDoor
namespace Rows

/-- THE TIED CARD OF 'parleylaw13.EventsTexts'. -/
def eventsTextsCard : Claim7 := { stood := { row := eventsTextsRow, standIns := [], harness := (true, "016292b42058f8aaf88f46e06cf6e7d6c65446f3365d4c5c509743bd5dab555f"), looks := true }, kinds := [], alts := [], laidByText := true, laidKinds := [.data, .data, .data, .sentinel, .sentinel], laidTests := true, laidLooks := .later }
def EventsTextsCardSaid : Prop := Claim7.holds Tryd.pinned (.plain (OpenSpec.ofChange eventsTextsSpec)) eventsTextsCard

/-- THE TIED CARD OF 'parleylaw13.EventsParses'. -/
def eventsParsesCard : Claim7 := { stood := { row := eventsParsesRow, standIns := [], harness := (true, "016292b42058f8aaf88f46e06cf6e7d6c65446f3365d4c5c509743bd5dab555f"), looks := true }, kinds := [], alts := [], laidByText := true, laidKinds := [.data, .data, .data, .sentinel, .sentinel], laidTests := true, laidLooks := .later }
def EventsParsesCardSaid : Prop := Claim7.holds Tryd.pinned (.plain (OpenSpec.ofChange eventsParsesSpec)) eventsParsesCard

/-- THE TIED CARD OF 'parleylaw13.EventsNames'. -/
def eventsNamesCard : Claim7 := { stood := { row := eventsNamesRow, standIns := [], harness := (true, "016292b42058f8aaf88f46e06cf6e7d6c65446f3365d4c5c509743bd5dab555f"), looks := true }, kinds := [], alts := [], laidByText := true, laidKinds := [.data, .data, .data, .sentinel, .sentinel], laidTests := true, laidLooks := .later }
def EventsNamesCardSaid : Prop := Claim7.holds Tryd.pinned (.plain (OpenSpec.ofChange eventsNamesSpec)) eventsNamesCard

/-- THE TIED CARD OF 'parleylaw13.EventsBegins'. -/
def eventsBeginsCard : Claim7 := { stood := { row := eventsBeginsRow, standIns := [], harness := (true, "016292b42058f8aaf88f46e06cf6e7d6c65446f3365d4c5c509743bd5dab555f"), looks := true }, kinds := [], alts := [], laidByText := true, laidKinds := [.data, .data, .data, .sentinel, .sentinel], laidTests := true, laidLooks := .later }
def EventsBeginsCardSaid : Prop := Claim7.holds Tryd.pinned (.plain (OpenSpec.ofChange eventsBeginsSpec)) eventsBeginsCard

/-- THE TIED CARD OF 'parleylaw13.EventsSwaps'. -/
def eventsSwapsCard : Claim7 := { stood := { row := eventsSwapsRow, standIns := [], harness := (true, "016292b42058f8aaf88f46e06cf6e7d6c65446f3365d4c5c509743bd5dab555f"), looks := true }, kinds := [], alts := [], laidByText := true, laidKinds := [.data, .data, .data, .sentinel, .sentinel], laidTests := true, laidLooks := .later }
def EventsSwapsCardSaid : Prop := Claim7.holds Tryd.pinned (.plain (OpenSpec.ofChange eventsSwapsSpec)) eventsSwapsCard

/-- THE TIED CARD OF 'parleylaw13.EventsBack'. -/
def eventsBackCard : Claim7 := { stood := { row := eventsBackRow, standIns := [], harness := (true, "016292b42058f8aaf88f46e06cf6e7d6c65446f3365d4c5c509743bd5dab555f"), looks := true }, kinds := [], alts := [], laidByText := true, laidKinds := [.data, .data, .data, .sentinel, .sentinel], laidTests := true, laidLooks := .later }
def EventsBackCardSaid : Prop := Claim7.holds Tryd.pinned (.plain (OpenSpec.ofChange eventsBackSpec)) eventsBackCard

/-- THE TIED CARD OF 'parleylaw13.EventsCheck'. -/
def eventsCheckCard : Claim7 := { stood := { row := eventsCheckRow, standIns := [], harness := (true, "016292b42058f8aaf88f46e06cf6e7d6c65446f3365d4c5c509743bd5dab555f"), looks := true }, kinds := [], alts := [], laidByText := true, laidKinds := [.data, .data, .data, .sentinel, .sentinel], laidTests := true, laidLooks := .later }
def EventsCheckCardSaid : Prop := Claim7.holds Tryd.pinned (.plain (OpenSpec.ofChange eventsCheckSpec)) eventsCheckCard

/-- THE SECOND FORM's CARD OF 'parleylaw13.EventsTexts'. -/
def eventsTextsUptoCard : Claim7 := { stood := { row := eventsTextsUptoRow, standIns := [], harness := (true, "016292b42058f8aaf88f46e06cf6e7d6c65446f3365d4c5c509743bd5dab555f"), looks := true }, kinds := [], alts := [], laidByText := true, laidKinds := [.data, .data, .data, .sentinel, .sentinel], laidTests := true, laidLooks := .later }
def EventsTextsUptoCardSaid : Prop := Claim7.holds Tryd.pinned (.plain (OpenSpec.upto eventsTextsSpec)) eventsTextsUptoCard

/-- THE SECOND FORM's CARD OF 'parleylaw13.EventsParses'. -/
def eventsParsesUptoCard : Claim7 := { stood := { row := eventsParsesUptoRow, standIns := [], harness := (true, "016292b42058f8aaf88f46e06cf6e7d6c65446f3365d4c5c509743bd5dab555f"), looks := true }, kinds := [], alts := [], laidByText := true, laidKinds := [.data, .data, .data, .sentinel, .sentinel], laidTests := true, laidLooks := .later }
def EventsParsesUptoCardSaid : Prop := Claim7.holds Tryd.pinned (.plain (OpenSpec.upto eventsParsesSpec)) eventsParsesUptoCard

/-- THE SECOND FORM's CARD OF 'parleylaw13.EventsNames'. -/
def eventsNamesUptoCard : Claim7 := { stood := { row := eventsNamesUptoRow, standIns := [], harness := (true, "016292b42058f8aaf88f46e06cf6e7d6c65446f3365d4c5c509743bd5dab555f"), looks := true }, kinds := [], alts := [], laidByText := true, laidKinds := [.data, .data, .data, .sentinel, .sentinel], laidTests := true, laidLooks := .later }
def EventsNamesUptoCardSaid : Prop := Claim7.holds Tryd.pinned (.plain (OpenSpec.upto eventsNamesSpec)) eventsNamesUptoCard

/-- THE SECOND FORM's CARD OF 'parleylaw13.EventsBegins'. -/
def eventsBeginsUptoCard : Claim7 := { stood := { row := eventsBeginsUptoRow, standIns := [], harness := (true, "016292b42058f8aaf88f46e06cf6e7d6c65446f3365d4c5c509743bd5dab555f"), looks := true }, kinds := [], alts := [], laidByText := true, laidKinds := [.data, .data, .data, .sentinel, .sentinel], laidTests := true, laidLooks := .later }
def EventsBeginsUptoCardSaid : Prop := Claim7.holds Tryd.pinned (.plain (OpenSpec.upto eventsBeginsSpec)) eventsBeginsUptoCard

/-- THE SECOND FORM's CARD OF 'parleylaw13.EventsSwaps'. -/
def eventsSwapsUptoCard : Claim7 := { stood := { row := eventsSwapsUptoRow, standIns := [], harness := (true, "016292b42058f8aaf88f46e06cf6e7d6c65446f3365d4c5c509743bd5dab555f"), looks := true }, kinds := [], alts := [], laidByText := true, laidKinds := [.data, .data, .data, .sentinel, .sentinel], laidTests := true, laidLooks := .later }
def EventsSwapsUptoCardSaid : Prop := Claim7.holds Tryd.pinned (.plain (OpenSpec.upto eventsSwapsSpec)) eventsSwapsUptoCard

/-- THE SECOND FORM's CARD OF 'parleylaw13.EventsBack'. -/
def eventsBackUptoCard : Claim7 := { stood := { row := eventsBackUptoRow, standIns := [], harness := (true, "016292b42058f8aaf88f46e06cf6e7d6c65446f3365d4c5c509743bd5dab555f"), looks := true }, kinds := [], alts := [], laidByText := true, laidKinds := [.data, .data, .data, .sentinel, .sentinel], laidTests := true, laidLooks := .later }
def EventsBackUptoCardSaid : Prop := Claim7.holds Tryd.pinned (.plain (OpenSpec.upto eventsBackSpec)) eventsBackUptoCard

/-- THE SECOND FORM's CARD OF 'parleylaw13.EventsCheck'. -/
def eventsCheckUptoCard : Claim7 := { stood := { row := eventsCheckUptoRow, standIns := [], harness := (true, "016292b42058f8aaf88f46e06cf6e7d6c65446f3365d4c5c509743bd5dab555f"), looks := true }, kinds := [], alts := [], laidByText := true, laidKinds := [.data, .data, .data, .sentinel, .sentinel], laidTests := true, laidLooks := .later }
def EventsCheckUptoCardSaid : Prop := Claim7.holds Tryd.pinned (.plain (OpenSpec.upto eventsCheckSpec)) eventsCheckUptoCard
end Rows
end Go.Proofs.YtfldpejifpmapaaDoor
