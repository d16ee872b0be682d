/-
  DERIVED. GIVEN WITH THE SEED: THE CARDS: each row of YtohlogbnpfofpaaGreatDoorRows.lean that lists a variable, with what it lists TIED to the program's text (the seventh form; the later family's looks); each row that meets fmt, with fmt's text TOLD by the authors' own Lean function (tested against real Go, not proved from fmt's source: count such statements apart). THE CARD IS WHAT COUNTS. Prove the row's statement (the work); the ties are given (YtohlogbnpfofpaaGreatDoorTie.lean); close each card by the builder's one call (the guide's Derived/Test/ToyasCard.lean, 'card_holds'). Laid BY PROGRAM, IN A SANDBOX (cutbox-door.mjs). By AI agents, Wed Nov 11 2026. No macro, syntax, notation, axiom, sorry.
-/
import Derived.Test.YtohlogbnpfofpaaGreatDoorRows
import GoSem.ClaimSeven
namespace Go.Proofs.YtohlogbnpfofpaaGreatDoor
namespace Rows

/-- THE TIED CARD OF 'cleanselaw09.PrinterMatchesReference'. -/
def printerMatchesReferenceCard : Claim7 := { stood := { row := printerMatchesReferenceRow, standIns := [], harness := (true, "b21ec1b5b6e1717b5b1408fc33c77a4b9746140fda5ea3aa08a47e9101e292bf"), looks := true }, kinds := [], alts := [], laidByText := true, laidKinds := [.data, .data, .data, .sentinel, .sentinel, .widerDeep, .data], laidTests := true, laidLooks := .later }
def PrinterMatchesReferenceCardSaid : Prop := Claim7.holds Tryz.pinned (.plain (OpenSpec.ofChange printerMatchesReferenceSpec)) printerMatchesReferenceCard

/-- THE TIED CARD OF 'cleanselaw09.PrinterInverse'. -/
def printerInverseCard : Claim7 := { stood := { row := printerInverseRow, standIns := [], harness := (true, "b21ec1b5b6e1717b5b1408fc33c77a4b9746140fda5ea3aa08a47e9101e292bf"), looks := true }, kinds := [], alts := [], laidByText := true, laidKinds := [.data, .data, .data, .sentinel, .sentinel, .widerDeep, .data], laidTests := true, laidLooks := .later }
def PrinterInverseCardSaid : Prop := Claim7.holds Tryz.pinned (.plain (OpenSpec.ofChange printerInverseSpec)) printerInverseCard

/-- THE TIED CARD OF 'cleanselaw09.PrinterCanonical'. -/
def printerCanonicalCard : Claim7 := { stood := { row := printerCanonicalRow, standIns := [], harness := (true, "b21ec1b5b6e1717b5b1408fc33c77a4b9746140fda5ea3aa08a47e9101e292bf"), looks := true }, kinds := [], alts := [], laidByText := true, laidKinds := [.data, .data, .data, .sentinel, .sentinel, .widerDeep, .data], laidTests := true, laidLooks := .later }
def PrinterCanonicalCardSaid : Prop := Claim7.holds Tryz.pinned (.plain (OpenSpec.ofChange printerCanonicalSpec)) printerCanonicalCard

/-- THE TIED CARD OF 'cleanselaw09.PrinterEquality'. -/
def printerEqualityCard : Claim7 := { stood := { row := printerEqualityRow, standIns := [], harness := (true, "b21ec1b5b6e1717b5b1408fc33c77a4b9746140fda5ea3aa08a47e9101e292bf"), looks := true }, kinds := [], alts := [], laidByText := true, laidKinds := [.data, .data, .data, .sentinel, .sentinel, .widerDeep, .data], laidTests := true, laidLooks := .later }
def PrinterEqualityCardSaid : Prop := Claim7.holds Tryz.pinned (.plain (OpenSpec.ofChange printerEqualitySpec)) printerEqualityCard

/-- THE TIED CARD OF 'cleanselaw09.PrinterItems'. -/
def printerItemsCard : Claim7 := { stood := { row := printerItemsRow, standIns := [], harness := (true, "b21ec1b5b6e1717b5b1408fc33c77a4b9746140fda5ea3aa08a47e9101e292bf"), looks := true }, kinds := [], alts := [], laidByText := true, laidKinds := [.data, .data, .data, .sentinel, .sentinel, .widerDeep, .data], laidTests := true, laidLooks := .later }
def PrinterItemsCardSaid : Prop := Claim7.holds Tryz.pinned (.plain (OpenSpec.ofChange printerItemsSpec)) printerItemsCard

/-- THE TIED CARD OF 'cleanselaw09.PrinterGaps'. -/
def printerGapsCard : Claim7 := { stood := { row := printerGapsRow, standIns := [], harness := (true, "b21ec1b5b6e1717b5b1408fc33c77a4b9746140fda5ea3aa08a47e9101e292bf"), looks := true }, kinds := [], alts := [], laidByText := true, laidKinds := [.data, .data, .data, .sentinel, .sentinel, .widerDeep, .data], laidTests := true, laidLooks := .later }
def PrinterGapsCardSaid : Prop := Claim7.holds Tryz.pinned (.plain (OpenSpec.ofChange printerGapsSpec)) printerGapsCard

/-- THE SECOND FORM's CARD OF 'cleanselaw09.PrinterMatchesReference'. -/
def printerMatchesReferenceUptoCard : Claim7 := { stood := { row := printerMatchesReferenceUptoRow, standIns := [], harness := (true, "b21ec1b5b6e1717b5b1408fc33c77a4b9746140fda5ea3aa08a47e9101e292bf"), looks := true }, kinds := [], alts := [], laidByText := true, laidKinds := [.data, .data, .data, .sentinel, .sentinel, .widerDeep, .data], laidTests := true, laidLooks := .later }
def PrinterMatchesReferenceUptoCardSaid : Prop := Claim7.holds Tryz.pinned (.plain (OpenSpec.upto printerMatchesReferenceSpec)) printerMatchesReferenceUptoCard

/-- THE SECOND FORM's CARD OF 'cleanselaw09.PrinterInverse'. -/
def printerInverseUptoCard : Claim7 := { stood := { row := printerInverseUptoRow, standIns := [], harness := (true, "b21ec1b5b6e1717b5b1408fc33c77a4b9746140fda5ea3aa08a47e9101e292bf"), looks := true }, kinds := [], alts := [], laidByText := true, laidKinds := [.data, .data, .data, .sentinel, .sentinel, .widerDeep, .data], laidTests := true, laidLooks := .later }
def PrinterInverseUptoCardSaid : Prop := Claim7.holds Tryz.pinned (.plain (OpenSpec.upto printerInverseSpec)) printerInverseUptoCard

/-- THE SECOND FORM's CARD OF 'cleanselaw09.PrinterCanonical'. -/
def printerCanonicalUptoCard : Claim7 := { stood := { row := printerCanonicalUptoRow, standIns := [], harness := (true, "b21ec1b5b6e1717b5b1408fc33c77a4b9746140fda5ea3aa08a47e9101e292bf"), looks := true }, kinds := [], alts := [], laidByText := true, laidKinds := [.data, .data, .data, .sentinel, .sentinel, .widerDeep, .data], laidTests := true, laidLooks := .later }
def PrinterCanonicalUptoCardSaid : Prop := Claim7.holds Tryz.pinned (.plain (OpenSpec.upto printerCanonicalSpec)) printerCanonicalUptoCard

/-- THE SECOND FORM's CARD OF 'cleanselaw09.PrinterEquality'. -/
def printerEqualityUptoCard : Claim7 := { stood := { row := printerEqualityUptoRow, standIns := [], harness := (true, "b21ec1b5b6e1717b5b1408fc33c77a4b9746140fda5ea3aa08a47e9101e292bf"), looks := true }, kinds := [], alts := [], laidByText := true, laidKinds := [.data, .data, .data, .sentinel, .sentinel, .widerDeep, .data], laidTests := true, laidLooks := .later }
def PrinterEqualityUptoCardSaid : Prop := Claim7.holds Tryz.pinned (.plain (OpenSpec.upto printerEqualitySpec)) printerEqualityUptoCard

/-- THE SECOND FORM's CARD OF 'cleanselaw09.PrinterItems'. -/
def printerItemsUptoCard : Claim7 := { stood := { row := printerItemsUptoRow, standIns := [], harness := (true, "b21ec1b5b6e1717b5b1408fc33c77a4b9746140fda5ea3aa08a47e9101e292bf"), looks := true }, kinds := [], alts := [], laidByText := true, laidKinds := [.data, .data, .data, .sentinel, .sentinel, .widerDeep, .data], laidTests := true, laidLooks := .later }
def PrinterItemsUptoCardSaid : Prop := Claim7.holds Tryz.pinned (.plain (OpenSpec.upto printerItemsSpec)) printerItemsUptoCard

/-- THE SECOND FORM's CARD OF 'cleanselaw09.PrinterGaps'. -/
def printerGapsUptoCard : Claim7 := { stood := { row := printerGapsUptoRow, standIns := [], harness := (true, "b21ec1b5b6e1717b5b1408fc33c77a4b9746140fda5ea3aa08a47e9101e292bf"), looks := true }, kinds := [], alts := [], laidByText := true, laidKinds := [.data, .data, .data, .sentinel, .sentinel, .widerDeep, .data], laidTests := true, laidLooks := .later }
def PrinterGapsUptoCardSaid : Prop := Claim7.holds Tryz.pinned (.plain (OpenSpec.upto printerGapsSpec)) printerGapsUptoCard
end Rows
end Go.Proofs.YtohlogbnpfofpaaGreatDoor
