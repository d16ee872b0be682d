/-
  DERIVED. GIVEN WITH THE SEED: THE CARDS: each row of YtihnelncimkegaaDoorRows.lean that lists a variable, with what it lists TIED to the program's text (the seventh form; the later family's looks); each row that meets fmt, with fmt's text TOLD by the authors' own Lean function (tested against real Go, not proved from fmt's source: count such statements apart). THE CARD IS WHAT COUNTS. Prove the row's statement (the work); the ties are given (YtihnelncimkegaaDoorTie.lean); close each card by the builder's one call (the guide's Derived/Test/ToyasCard.lean, 'card_holds'). Laid BY PROGRAM, IN A SANDBOX (cutbox-door.mjs). By AI agents, Wed Nov 11 2026. No macro, syntax, notation, axiom, sorry.
-/
import Derived.Test.YtihnelncimkegaaDoorRows
import GoSem.ClaimSeven
namespace Go.Proofs.YtihnelncimkegaaDoor
namespace Rows

/-- THE TIED CARD OF 'cleanselaw45.SealMatchesReference'. -/
def sealMatchesReferenceCard : Claim7 := { stood := { row := sealMatchesReferenceRow, standIns := [], harness := (true, "d0e19015e65be3e1afc5badb96a8b64b424f9ea0bce1076a12d551535875029f"), looks := false }, kinds := [], alts := [], laidByText := true, laidKinds := [.data, .data, .data], laidTests := true, laidLooks := .later }
def SealMatchesReferenceCardSaid : Prop := Claim7.holds Tryd.pinned (.plain (OpenSpec.ofChange sealMatchesReferenceSpec)) sealMatchesReferenceCard

/-- THE TIED CARD OF 'cleanselaw45.SealInverse'. -/
def sealInverseCard : Claim7 := { stood := { row := sealInverseRow, standIns := [], harness := (true, "d0e19015e65be3e1afc5badb96a8b64b424f9ea0bce1076a12d551535875029f"), looks := false }, kinds := [], alts := [], laidByText := true, laidKinds := [.data, .data, .data], laidTests := true, laidLooks := .later }
def SealInverseCardSaid : Prop := Claim7.holds Tryd.pinned (.plain (OpenSpec.ofChange sealInverseSpec)) sealInverseCard

/-- THE TIED CARD OF 'cleanselaw45.SealRot'. -/
def sealRotCard : Claim7 := { stood := { row := sealRotRow, standIns := [], harness := (true, "d0e19015e65be3e1afc5badb96a8b64b424f9ea0bce1076a12d551535875029f"), looks := false }, kinds := [], alts := [], laidByText := true, laidKinds := [.data, .data, .data], laidTests := true, laidLooks := .later }
def SealRotCardSaid : Prop := Claim7.holds Tryd.pinned (.plain (OpenSpec.ofChange sealRotSpec)) sealRotCard

/-- THE TIED CARD OF 'cleanselaw45.SealOnly'. -/
def sealOnlyCard : Claim7 := { stood := { row := sealOnlyRow, standIns := [], harness := (true, "d0e19015e65be3e1afc5badb96a8b64b424f9ea0bce1076a12d551535875029f"), looks := false }, kinds := [], alts := [], laidByText := true, laidKinds := [.data, .data, .data], laidTests := true, laidLooks := .later }
def SealOnlyCardSaid : Prop := Claim7.holds Tryd.pinned (.plain (OpenSpec.ofChange sealOnlySpec)) sealOnlyCard

/-- THE TIED CARD OF 'cleanselaw45.SealSums'. -/
def sealSumsCard : Claim7 := { stood := { row := sealSumsRow, standIns := [], harness := (true, "d0e19015e65be3e1afc5badb96a8b64b424f9ea0bce1076a12d551535875029f"), looks := false }, kinds := [], alts := [], laidByText := true, laidKinds := [.data, .data, .data], laidTests := true, laidLooks := .later }
def SealSumsCardSaid : Prop := Claim7.holds Tryd.pinned (.plain (OpenSpec.ofChange sealSumsSpec)) sealSumsCard

/-- THE TIED CARD OF 'cleanselaw45.SealSplits'. -/
def sealSplitsCard : Claim7 := { stood := { row := sealSplitsRow, standIns := [], harness := (true, "d0e19015e65be3e1afc5badb96a8b64b424f9ea0bce1076a12d551535875029f"), looks := false }, kinds := [], alts := [], laidByText := true, laidKinds := [.data, .data, .data], laidTests := true, laidLooks := .later }
def SealSplitsCardSaid : Prop := Claim7.holds Tryd.pinned (.plain (OpenSpec.ofChange sealSplitsSpec)) sealSplitsCard

/-- THE SECOND FORM's CARD OF 'cleanselaw45.SealMatchesReference'. -/
def sealMatchesReferenceUptoCard : Claim7 := { stood := { row := sealMatchesReferenceUptoRow, standIns := [], harness := (true, "d0e19015e65be3e1afc5badb96a8b64b424f9ea0bce1076a12d551535875029f"), looks := false }, kinds := [], alts := [], laidByText := true, laidKinds := [.data, .data, .data], laidTests := true, laidLooks := .later }
def SealMatchesReferenceUptoCardSaid : Prop := Claim7.holds Tryd.pinned (.plain (OpenSpec.upto sealMatchesReferenceSpec)) sealMatchesReferenceUptoCard

/-- THE SECOND FORM's CARD OF 'cleanselaw45.SealInverse'. -/
def sealInverseUptoCard : Claim7 := { stood := { row := sealInverseUptoRow, standIns := [], harness := (true, "d0e19015e65be3e1afc5badb96a8b64b424f9ea0bce1076a12d551535875029f"), looks := false }, kinds := [], alts := [], laidByText := true, laidKinds := [.data, .data, .data], laidTests := true, laidLooks := .later }
def SealInverseUptoCardSaid : Prop := Claim7.holds Tryd.pinned (.plain (OpenSpec.upto sealInverseSpec)) sealInverseUptoCard

/-- THE SECOND FORM's CARD OF 'cleanselaw45.SealRot'. -/
def sealRotUptoCard : Claim7 := { stood := { row := sealRotUptoRow, standIns := [], harness := (true, "d0e19015e65be3e1afc5badb96a8b64b424f9ea0bce1076a12d551535875029f"), looks := false }, kinds := [], alts := [], laidByText := true, laidKinds := [.data, .data, .data], laidTests := true, laidLooks := .later }
def SealRotUptoCardSaid : Prop := Claim7.holds Tryd.pinned (.plain (OpenSpec.upto sealRotSpec)) sealRotUptoCard

/-- THE SECOND FORM's CARD OF 'cleanselaw45.SealOnly'. -/
def sealOnlyUptoCard : Claim7 := { stood := { row := sealOnlyUptoRow, standIns := [], harness := (true, "d0e19015e65be3e1afc5badb96a8b64b424f9ea0bce1076a12d551535875029f"), looks := false }, kinds := [], alts := [], laidByText := true, laidKinds := [.data, .data, .data], laidTests := true, laidLooks := .later }
def SealOnlyUptoCardSaid : Prop := Claim7.holds Tryd.pinned (.plain (OpenSpec.upto sealOnlySpec)) sealOnlyUptoCard

/-- THE SECOND FORM's CARD OF 'cleanselaw45.SealSums'. -/
def sealSumsUptoCard : Claim7 := { stood := { row := sealSumsUptoRow, standIns := [], harness := (true, "d0e19015e65be3e1afc5badb96a8b64b424f9ea0bce1076a12d551535875029f"), looks := false }, kinds := [], alts := [], laidByText := true, laidKinds := [.data, .data, .data], laidTests := true, laidLooks := .later }
def SealSumsUptoCardSaid : Prop := Claim7.holds Tryd.pinned (.plain (OpenSpec.upto sealSumsSpec)) sealSumsUptoCard

/-- THE SECOND FORM's CARD OF 'cleanselaw45.SealSplits'. -/
def sealSplitsUptoCard : Claim7 := { stood := { row := sealSplitsUptoRow, standIns := [], harness := (true, "d0e19015e65be3e1afc5badb96a8b64b424f9ea0bce1076a12d551535875029f"), looks := false }, kinds := [], alts := [], laidByText := true, laidKinds := [.data, .data, .data], laidTests := true, laidLooks := .later }
def SealSplitsUptoCardSaid : Prop := Claim7.holds Tryd.pinned (.plain (OpenSpec.upto sealSplitsSpec)) sealSplitsUptoCard
end Rows
end Go.Proofs.YtihnelncimkegaaDoor
