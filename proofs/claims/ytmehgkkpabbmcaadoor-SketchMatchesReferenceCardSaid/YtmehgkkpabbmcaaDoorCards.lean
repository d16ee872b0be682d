/-
  DERIVED. GIVEN WITH THE SEED: THE CARDS: each row of YtmehgkkpabbmcaaDoorRows.lean that lists a variable, with what it lists TIED to the program's text (the seventh form; the later family's looks); each row that meets fmt, with fmt's text TOLD by the authors' own Lean function (tested against real Go, not proved from fmt's source: count such statements apart). THE CARD IS WHAT COUNTS. Prove the row's statement (the work); the ties are given (YtmehgkkpabbmcaaDoorTie.lean); close each card by the builder's one call (the guide's Derived/Test/ToyasCard.lean, 'card_holds'). Laid BY PROGRAM, IN A SANDBOX (cutbox-door.mjs). By AI agents, Wed Nov 11 2026. No macro, syntax, notation, axiom, sorry.
-/
import Derived.Test.YtmehgkkpabbmcaaDoorRows
import GoSem.ClaimSeven
namespace Go.Proofs.YtmehgkkpabbmcaaDoor
namespace Rows

/-- THE TIED CARD OF 'cleanselaw05.SketchMatchesReference'. -/
def sketchMatchesReferenceCard : Claim7 := { stood := { row := sketchMatchesReferenceRow, standIns := [], harness := (true, "1fb8a8846cb12bff372bfb87e415e0608eac1130cdc1535df764f0aa4efa78c2"), looks := false }, kinds := [], alts := [], laidByText := true, laidKinds := [.data, .data, .data], laidTests := true, laidLooks := .later }
def SketchMatchesReferenceCardSaid : Prop := Claim7.holds Tryd.pinned (.plain (OpenSpec.ofChange sketchMatchesReferenceSpec)) sketchMatchesReferenceCard

/-- THE TIED CARD OF 'cleanselaw05.SketchSets'. -/
def sketchSetsCard : Claim7 := { stood := { row := sketchSetsRow, standIns := [], harness := (true, "1fb8a8846cb12bff372bfb87e415e0608eac1130cdc1535df764f0aa4efa78c2"), looks := false }, kinds := [], alts := [], laidByText := true, laidKinds := [.data, .data, .data], laidTests := true, laidLooks := .later }
def SketchSetsCardSaid : Prop := Claim7.holds Tryd.pinned (.plain (OpenSpec.ofChange sketchSetsSpec)) sketchSetsCard

/-- THE TIED CARD OF 'cleanselaw05.SketchUnions'. -/
def sketchUnionsCard : Claim7 := { stood := { row := sketchUnionsRow, standIns := [], harness := (true, "1fb8a8846cb12bff372bfb87e415e0608eac1130cdc1535df764f0aa4efa78c2"), looks := false }, kinds := [], alts := [], laidByText := true, laidKinds := [.data, .data, .data], laidTests := true, laidLooks := .later }
def SketchUnionsCardSaid : Prop := Claim7.holds Tryd.pinned (.plain (OpenSpec.ofChange sketchUnionsSpec)) sketchUnionsCard

/-- THE TIED CARD OF 'cleanselaw05.SketchEstimates'. -/
def sketchEstimatesCard : Claim7 := { stood := { row := sketchEstimatesRow, standIns := [], harness := (true, "1fb8a8846cb12bff372bfb87e415e0608eac1130cdc1535df764f0aa4efa78c2"), looks := false }, kinds := [], alts := [], laidByText := true, laidKinds := [.data, .data, .data], laidTests := true, laidLooks := .later }
def SketchEstimatesCardSaid : Prop := Claim7.holds Tryd.pinned (.plain (OpenSpec.ofChange sketchEstimatesSpec)) sketchEstimatesCard

/-- THE TIED CARD OF 'cleanselaw05.SketchBands'. -/
def sketchBandsCard : Claim7 := { stood := { row := sketchBandsRow, standIns := [], harness := (true, "1fb8a8846cb12bff372bfb87e415e0608eac1130cdc1535df764f0aa4efa78c2"), looks := false }, kinds := [], alts := [], laidByText := true, laidKinds := [.data, .data, .data], laidTests := true, laidLooks := .later }
def SketchBandsCardSaid : Prop := Claim7.holds Tryd.pinned (.plain (OpenSpec.ofChange sketchBandsSpec)) sketchBandsCard

/-- THE TIED CARD OF 'cleanselaw05.SketchHashes'. -/
def sketchHashesCard : Claim7 := { stood := { row := sketchHashesRow, standIns := [], harness := (true, "1fb8a8846cb12bff372bfb87e415e0608eac1130cdc1535df764f0aa4efa78c2"), looks := false }, kinds := [], alts := [], laidByText := true, laidKinds := [.data, .data, .data], laidTests := true, laidLooks := .later }
def SketchHashesCardSaid : Prop := Claim7.holds Tryd.pinned (.plain (OpenSpec.ofChange sketchHashesSpec)) sketchHashesCard

/-- THE TIED CARD OF 'cleanselaw05.SketchShorter'. -/
def sketchShorterCard : Claim7 := { stood := { row := sketchShorterRow, standIns := [], harness := (true, "1fb8a8846cb12bff372bfb87e415e0608eac1130cdc1535df764f0aa4efa78c2"), looks := false }, kinds := [], alts := [], laidByText := true, laidKinds := [.data, .data, .data], laidTests := true, laidLooks := .later }
def SketchShorterCardSaid : Prop := Claim7.holds Tryd.pinned (.plain (OpenSpec.ofChange sketchShorterSpec)) sketchShorterCard

/-- THE SECOND FORM's CARD OF 'cleanselaw05.SketchMatchesReference'. -/
def sketchMatchesReferenceUptoCard : Claim7 := { stood := { row := sketchMatchesReferenceUptoRow, standIns := [], harness := (true, "1fb8a8846cb12bff372bfb87e415e0608eac1130cdc1535df764f0aa4efa78c2"), looks := false }, kinds := [], alts := [], laidByText := true, laidKinds := [.data, .data, .data], laidTests := true, laidLooks := .later }
def SketchMatchesReferenceUptoCardSaid : Prop := Claim7.holds Tryd.pinned (.plain (OpenSpec.upto sketchMatchesReferenceSpec)) sketchMatchesReferenceUptoCard

/-- THE SECOND FORM's CARD OF 'cleanselaw05.SketchSets'. -/
def sketchSetsUptoCard : Claim7 := { stood := { row := sketchSetsUptoRow, standIns := [], harness := (true, "1fb8a8846cb12bff372bfb87e415e0608eac1130cdc1535df764f0aa4efa78c2"), looks := false }, kinds := [], alts := [], laidByText := true, laidKinds := [.data, .data, .data], laidTests := true, laidLooks := .later }
def SketchSetsUptoCardSaid : Prop := Claim7.holds Tryd.pinned (.plain (OpenSpec.upto sketchSetsSpec)) sketchSetsUptoCard

/-- THE SECOND FORM's CARD OF 'cleanselaw05.SketchUnions'. -/
def sketchUnionsUptoCard : Claim7 := { stood := { row := sketchUnionsUptoRow, standIns := [], harness := (true, "1fb8a8846cb12bff372bfb87e415e0608eac1130cdc1535df764f0aa4efa78c2"), looks := false }, kinds := [], alts := [], laidByText := true, laidKinds := [.data, .data, .data], laidTests := true, laidLooks := .later }
def SketchUnionsUptoCardSaid : Prop := Claim7.holds Tryd.pinned (.plain (OpenSpec.upto sketchUnionsSpec)) sketchUnionsUptoCard

/-- THE SECOND FORM's CARD OF 'cleanselaw05.SketchEstimates'. -/
def sketchEstimatesUptoCard : Claim7 := { stood := { row := sketchEstimatesUptoRow, standIns := [], harness := (true, "1fb8a8846cb12bff372bfb87e415e0608eac1130cdc1535df764f0aa4efa78c2"), looks := false }, kinds := [], alts := [], laidByText := true, laidKinds := [.data, .data, .data], laidTests := true, laidLooks := .later }
def SketchEstimatesUptoCardSaid : Prop := Claim7.holds Tryd.pinned (.plain (OpenSpec.upto sketchEstimatesSpec)) sketchEstimatesUptoCard

/-- THE SECOND FORM's CARD OF 'cleanselaw05.SketchBands'. -/
def sketchBandsUptoCard : Claim7 := { stood := { row := sketchBandsUptoRow, standIns := [], harness := (true, "1fb8a8846cb12bff372bfb87e415e0608eac1130cdc1535df764f0aa4efa78c2"), looks := false }, kinds := [], alts := [], laidByText := true, laidKinds := [.data, .data, .data], laidTests := true, laidLooks := .later }
def SketchBandsUptoCardSaid : Prop := Claim7.holds Tryd.pinned (.plain (OpenSpec.upto sketchBandsSpec)) sketchBandsUptoCard

/-- THE SECOND FORM's CARD OF 'cleanselaw05.SketchHashes'. -/
def sketchHashesUptoCard : Claim7 := { stood := { row := sketchHashesUptoRow, standIns := [], harness := (true, "1fb8a8846cb12bff372bfb87e415e0608eac1130cdc1535df764f0aa4efa78c2"), looks := false }, kinds := [], alts := [], laidByText := true, laidKinds := [.data, .data, .data], laidTests := true, laidLooks := .later }
def SketchHashesUptoCardSaid : Prop := Claim7.holds Tryd.pinned (.plain (OpenSpec.upto sketchHashesSpec)) sketchHashesUptoCard

/-- THE SECOND FORM's CARD OF 'cleanselaw05.SketchShorter'. -/
def sketchShorterUptoCard : Claim7 := { stood := { row := sketchShorterUptoRow, standIns := [], harness := (true, "1fb8a8846cb12bff372bfb87e415e0608eac1130cdc1535df764f0aa4efa78c2"), looks := false }, kinds := [], alts := [], laidByText := true, laidKinds := [.data, .data, .data], laidTests := true, laidLooks := .later }
def SketchShorterUptoCardSaid : Prop := Claim7.holds Tryd.pinned (.plain (OpenSpec.upto sketchShorterSpec)) sketchShorterUptoCard
end Rows
end Go.Proofs.YtmehgkkpabbmcaaDoor
