/-
  DERIVED. GIVEN WITH THE SEED: THE CARDS: each row of YtffpaippmfafjaaGreatDoorRows.lean that lists a variable, with what it lists TIED to the program's text (the seventh form; the later family's looks); each row that meets fmt, with fmt's text TOLD by the authors' own Lean function (tested against real Go, not proved from fmt's source: count such statements apart). THE CARD IS WHAT COUNTS. Prove the row's statement (the work); the ties are given (YtffpaippmfafjaaGreatDoorTie.lean); close each card by the builder's one call (the guide's Derived/Test/ToyasCard.lean, 'card_holds'). Laid BY PROGRAM, IN A SANDBOX (cutbox-door.mjs). By AI agents, Wed Nov 11 2026. No macro, syntax, notation, axiom, sorry.
-/
import Derived.Test.YtffpaippmfafjaaGreatDoorRows
import GoSem.ClaimSeven
namespace Go.Proofs.YtffpaippmfafjaaGreatDoor
namespace Rows

/-- THE TIED CARD OF 'cleanselaw02.ValueMatchesReference'. -/
def valueMatchesReferenceCard : Claim7 := { stood := { row := valueMatchesReferenceRow, standIns := [], harness := (true, "8f07a5511e847808cee2d383427ac374c1020a2fbf61969d5d5a27738a86fb38"), looks := true }, kinds := [], alts := [], laidByText := true, laidKinds := [.data, .data, .data, .sentinel, .sentinel], laidTests := true, laidLooks := .later }
def ValueMatchesReferenceCardSaid : Prop := Claim7.holds Tryz.pinned (.plain (OpenSpec.ofChange valueMatchesReferenceSpec)) valueMatchesReferenceCard

/-- THE TIED CARD OF 'cleanselaw02.ValueOrder'. -/
def valueOrderCard : Claim7 := { stood := { row := valueOrderRow, standIns := [], harness := (true, "8f07a5511e847808cee2d383427ac374c1020a2fbf61969d5d5a27738a86fb38"), looks := true }, kinds := [], alts := [], laidByText := true, laidKinds := [.data, .data, .data, .sentinel, .sentinel], laidTests := true, laidLooks := .later }
def ValueOrderCardSaid : Prop := Claim7.holds Tryz.pinned (.plain (OpenSpec.ofChange valueOrderSpec)) valueOrderCard

/-- THE TIED CARD OF 'cleanselaw02.ValueTexts'. -/
def valueTextsCard : Claim7 := { stood := { row := valueTextsRow, standIns := [], harness := (true, "8f07a5511e847808cee2d383427ac374c1020a2fbf61969d5d5a27738a86fb38"), looks := true }, kinds := [], alts := [], laidByText := true, laidKinds := [.data, .data, .data, .sentinel, .sentinel], laidTests := true, laidLooks := .later }
def ValueTextsCardSaid : Prop := Claim7.holds Tryz.pinned (.plain (OpenSpec.ofChange valueTextsSpec)) valueTextsCard

/-- THE TIED CARD OF 'cleanselaw02.ValueCasts'. -/
def valueCastsCard : Claim7 := { stood := { row := valueCastsRow, standIns := [], harness := (true, "8f07a5511e847808cee2d383427ac374c1020a2fbf61969d5d5a27738a86fb38"), looks := true }, kinds := [], alts := [], laidByText := true, laidKinds := [.data, .data, .data, .sentinel, .sentinel], laidTests := true, laidLooks := .later }
def ValueCastsCardSaid : Prop := Claim7.holds Tryz.pinned (.plain (OpenSpec.ofChange valueCastsSpec)) valueCastsCard

/-- THE TIED CARD OF 'cleanselaw02.ValueTests'. -/
def valueTestsCard : Claim7 := { stood := { row := valueTestsRow, standIns := [], harness := (true, "8f07a5511e847808cee2d383427ac374c1020a2fbf61969d5d5a27738a86fb38"), looks := true }, kinds := [], alts := [], laidByText := true, laidKinds := [.data, .data, .data, .sentinel, .sentinel], laidTests := true, laidLooks := .later }
def ValueTestsCardSaid : Prop := Claim7.holds Tryz.pinned (.plain (OpenSpec.ofChange valueTestsSpec)) valueTestsCard

/-- THE TIED CARD OF 'cleanselaw02.ValueShifts'. -/
def valueShiftsCard : Claim7 := { stood := { row := valueShiftsRow, standIns := [], harness := (true, "8f07a5511e847808cee2d383427ac374c1020a2fbf61969d5d5a27738a86fb38"), looks := true }, kinds := [], alts := [], laidByText := true, laidKinds := [.data, .data, .data, .sentinel, .sentinel], laidTests := true, laidLooks := .later }
def ValueShiftsCardSaid : Prop := Claim7.holds Tryz.pinned (.plain (OpenSpec.ofChange valueShiftsSpec)) valueShiftsCard

/-- THE TIED CARD OF 'cleanselaw02.ValueNothing'. -/
def valueNothingCard : Claim7 := { stood := { row := valueNothingRow, standIns := [], harness := (true, "8f07a5511e847808cee2d383427ac374c1020a2fbf61969d5d5a27738a86fb38"), looks := true }, kinds := [], alts := [], laidByText := true, laidKinds := [.data, .data, .data, .sentinel, .sentinel], laidTests := true, laidLooks := .later }
def ValueNothingCardSaid : Prop := Claim7.holds Tryz.pinned (.plain (OpenSpec.ofChange valueNothingSpec)) valueNothingCard

/-- THE TIED CARD OF 'cleanselaw02.ValueRows'. -/
def valueRowsCard : Claim7 := { stood := { row := valueRowsRow, standIns := [], harness := (true, "8f07a5511e847808cee2d383427ac374c1020a2fbf61969d5d5a27738a86fb38"), looks := true }, kinds := [], alts := [], laidByText := true, laidKinds := [.data, .data, .data, .sentinel, .sentinel], laidTests := true, laidLooks := .later }
def ValueRowsCardSaid : Prop := Claim7.holds Tryz.pinned (.plain (OpenSpec.ofChange valueRowsSpec)) valueRowsCard

/-- THE SECOND FORM's CARD OF 'cleanselaw02.ValueMatchesReference'. -/
def valueMatchesReferenceUptoCard : Claim7 := { stood := { row := valueMatchesReferenceUptoRow, standIns := [], harness := (true, "8f07a5511e847808cee2d383427ac374c1020a2fbf61969d5d5a27738a86fb38"), looks := true }, kinds := [], alts := [], laidByText := true, laidKinds := [.data, .data, .data, .sentinel, .sentinel], laidTests := true, laidLooks := .later }
def ValueMatchesReferenceUptoCardSaid : Prop := Claim7.holds Tryz.pinned (.plain (OpenSpec.upto valueMatchesReferenceSpec)) valueMatchesReferenceUptoCard

/-- THE SECOND FORM's CARD OF 'cleanselaw02.ValueOrder'. -/
def valueOrderUptoCard : Claim7 := { stood := { row := valueOrderUptoRow, standIns := [], harness := (true, "8f07a5511e847808cee2d383427ac374c1020a2fbf61969d5d5a27738a86fb38"), looks := true }, kinds := [], alts := [], laidByText := true, laidKinds := [.data, .data, .data, .sentinel, .sentinel], laidTests := true, laidLooks := .later }
def ValueOrderUptoCardSaid : Prop := Claim7.holds Tryz.pinned (.plain (OpenSpec.upto valueOrderSpec)) valueOrderUptoCard

/-- THE SECOND FORM's CARD OF 'cleanselaw02.ValueTexts'. -/
def valueTextsUptoCard : Claim7 := { stood := { row := valueTextsUptoRow, standIns := [], harness := (true, "8f07a5511e847808cee2d383427ac374c1020a2fbf61969d5d5a27738a86fb38"), looks := true }, kinds := [], alts := [], laidByText := true, laidKinds := [.data, .data, .data, .sentinel, .sentinel], laidTests := true, laidLooks := .later }
def ValueTextsUptoCardSaid : Prop := Claim7.holds Tryz.pinned (.plain (OpenSpec.upto valueTextsSpec)) valueTextsUptoCard

/-- THE SECOND FORM's CARD OF 'cleanselaw02.ValueCasts'. -/
def valueCastsUptoCard : Claim7 := { stood := { row := valueCastsUptoRow, standIns := [], harness := (true, "8f07a5511e847808cee2d383427ac374c1020a2fbf61969d5d5a27738a86fb38"), looks := true }, kinds := [], alts := [], laidByText := true, laidKinds := [.data, .data, .data, .sentinel, .sentinel], laidTests := true, laidLooks := .later }
def ValueCastsUptoCardSaid : Prop := Claim7.holds Tryz.pinned (.plain (OpenSpec.upto valueCastsSpec)) valueCastsUptoCard

/-- THE SECOND FORM's CARD OF 'cleanselaw02.ValueTests'. -/
def valueTestsUptoCard : Claim7 := { stood := { row := valueTestsUptoRow, standIns := [], harness := (true, "8f07a5511e847808cee2d383427ac374c1020a2fbf61969d5d5a27738a86fb38"), looks := true }, kinds := [], alts := [], laidByText := true, laidKinds := [.data, .data, .data, .sentinel, .sentinel], laidTests := true, laidLooks := .later }
def ValueTestsUptoCardSaid : Prop := Claim7.holds Tryz.pinned (.plain (OpenSpec.upto valueTestsSpec)) valueTestsUptoCard

/-- THE SECOND FORM's CARD OF 'cleanselaw02.ValueShifts'. -/
def valueShiftsUptoCard : Claim7 := { stood := { row := valueShiftsUptoRow, standIns := [], harness := (true, "8f07a5511e847808cee2d383427ac374c1020a2fbf61969d5d5a27738a86fb38"), looks := true }, kinds := [], alts := [], laidByText := true, laidKinds := [.data, .data, .data, .sentinel, .sentinel], laidTests := true, laidLooks := .later }
def ValueShiftsUptoCardSaid : Prop := Claim7.holds Tryz.pinned (.plain (OpenSpec.upto valueShiftsSpec)) valueShiftsUptoCard

/-- THE SECOND FORM's CARD OF 'cleanselaw02.ValueNothing'. -/
def valueNothingUptoCard : Claim7 := { stood := { row := valueNothingUptoRow, standIns := [], harness := (true, "8f07a5511e847808cee2d383427ac374c1020a2fbf61969d5d5a27738a86fb38"), looks := true }, kinds := [], alts := [], laidByText := true, laidKinds := [.data, .data, .data, .sentinel, .sentinel], laidTests := true, laidLooks := .later }
def ValueNothingUptoCardSaid : Prop := Claim7.holds Tryz.pinned (.plain (OpenSpec.upto valueNothingSpec)) valueNothingUptoCard

/-- THE SECOND FORM's CARD OF 'cleanselaw02.ValueRows'. -/
def valueRowsUptoCard : Claim7 := { stood := { row := valueRowsUptoRow, standIns := [], harness := (true, "8f07a5511e847808cee2d383427ac374c1020a2fbf61969d5d5a27738a86fb38"), looks := true }, kinds := [], alts := [], laidByText := true, laidKinds := [.data, .data, .data, .sentinel, .sentinel], laidTests := true, laidLooks := .later }
def ValueRowsUptoCardSaid : Prop := Claim7.holds Tryz.pinned (.plain (OpenSpec.upto valueRowsSpec)) valueRowsUptoCard
end Rows
end Go.Proofs.YtffpaippmfafjaaGreatDoor
