/-
  DERIVED. GIVEN WITH THE SEED: THE CARDS: each row of YtnmfanjhepepbaaDoorRows.lean that lists a variable, with what it lists TIED to the program's text (the seventh form; the later family's looks); each row that meets fmt, with fmt's text TOLD by the authors' own Lean function (tested against real Go, not proved from fmt's source: count such statements apart). THE CARD IS WHAT COUNTS. Prove the row's statement (the work); the ties are given (YtnmfanjhepepbaaDoorTie.lean); close each card by the builder's one call (the guide's Derived/Test/ToyasCard.lean, 'card_holds'). Laid BY PROGRAM, IN A SANDBOX (cutbox-door.mjs). By AI agents, Wed Nov 11 2026. No macro, syntax, notation, axiom, sorry.
-/
import Derived.Test.YtnmfanjhepepbaaDoorRows
import GoSem.ClaimSeven
namespace Go.Proofs.YtnmfanjhepepbaaDoor
namespace Rows

/-- THE TIED CARD OF 'cleanselaw08.ParserFirstError'. -/
def parserFirstErrorCard : Claim7 := { stood := { row := parserFirstErrorRow, standIns := [], harness := (true, "908c50b4a3ab7aa2f5f5986dcc017be4f63ffd60b70922923756605498045a56"), looks := true }, kinds := [], alts := [], laidByText := true, laidKinds := [.data, .data, .data, .sentinel, .sentinel, .widerDeep], laidTests := true, laidLooks := .later }
def ParserFirstErrorCardSaid : Prop := Claim7.holds Tryd.pinned (.plain (OpenSpec.ofChange parserFirstErrorSpec)) parserFirstErrorCard

/-- THE TIED CARD OF 'cleanselaw08.ParserOffsets'. -/
def parserOffsetsCard : Claim7 := { stood := { row := parserOffsetsRow, standIns := [], harness := (true, "908c50b4a3ab7aa2f5f5986dcc017be4f63ffd60b70922923756605498045a56"), looks := true }, kinds := [], alts := [], laidByText := true, laidKinds := [.data, .data, .data, .sentinel, .sentinel, .widerDeep], laidTests := true, laidLooks := .later }
def ParserOffsetsCardSaid : Prop := Claim7.holds Tryd.pinned (.plain (OpenSpec.ofChange parserOffsetsSpec)) parserOffsetsCard

/-- THE TIED CARD OF 'cleanselaw08.ParserOperations'. -/
def parserOperationsCard : Claim7 := { stood := { row := parserOperationsRow, standIns := [], harness := (true, "908c50b4a3ab7aa2f5f5986dcc017be4f63ffd60b70922923756605498045a56"), looks := true }, kinds := [], alts := [], laidByText := true, laidKinds := [.data, .data, .data, .sentinel, .sentinel, .widerDeep], laidTests := true, laidLooks := .later }
def ParserOperationsCardSaid : Prop := Claim7.holds Tryd.pinned (.plain (OpenSpec.ofChange parserOperationsSpec)) parserOperationsCard

/-- THE SECOND FORM's CARD OF 'cleanselaw08.ParserFirstError'. -/
def parserFirstErrorUptoCard : Claim7 := { stood := { row := parserFirstErrorUptoRow, standIns := [], harness := (true, "908c50b4a3ab7aa2f5f5986dcc017be4f63ffd60b70922923756605498045a56"), looks := true }, kinds := [], alts := [], laidByText := true, laidKinds := [.data, .data, .data, .sentinel, .sentinel, .widerDeep], laidTests := true, laidLooks := .later }
def ParserFirstErrorUptoCardSaid : Prop := Claim7.holds Tryd.pinned (.plain (OpenSpec.upto parserFirstErrorSpec)) parserFirstErrorUptoCard

/-- THE SECOND FORM's CARD OF 'cleanselaw08.ParserOffsets'. -/
def parserOffsetsUptoCard : Claim7 := { stood := { row := parserOffsetsUptoRow, standIns := [], harness := (true, "908c50b4a3ab7aa2f5f5986dcc017be4f63ffd60b70922923756605498045a56"), looks := true }, kinds := [], alts := [], laidByText := true, laidKinds := [.data, .data, .data, .sentinel, .sentinel, .widerDeep], laidTests := true, laidLooks := .later }
def ParserOffsetsUptoCardSaid : Prop := Claim7.holds Tryd.pinned (.plain (OpenSpec.upto parserOffsetsSpec)) parserOffsetsUptoCard

/-- THE SECOND FORM's CARD OF 'cleanselaw08.ParserOperations'. -/
def parserOperationsUptoCard : Claim7 := { stood := { row := parserOperationsUptoRow, standIns := [], harness := (true, "908c50b4a3ab7aa2f5f5986dcc017be4f63ffd60b70922923756605498045a56"), looks := true }, kinds := [], alts := [], laidByText := true, laidKinds := [.data, .data, .data, .sentinel, .sentinel, .widerDeep], laidTests := true, laidLooks := .later }
def ParserOperationsUptoCardSaid : Prop := Claim7.holds Tryd.pinned (.plain (OpenSpec.upto parserOperationsSpec)) parserOperationsUptoCard
end Rows
end Go.Proofs.YtnmfanjhepepbaaDoor
