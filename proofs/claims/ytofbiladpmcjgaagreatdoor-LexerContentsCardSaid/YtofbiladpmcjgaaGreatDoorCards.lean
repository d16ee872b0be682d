/-
  DERIVED. GIVEN WITH THE SEED: THE CARDS: each row of YtofbiladpmcjgaaGreatDoorRows.lean that lists a variable, with what it lists TIED to the program's text (the seventh form; the later family's looks); each row that meets fmt, with fmt's text TOLD by the authors' own Lean function (tested against real Go, not proved from fmt's source: count such statements apart). THE CARD IS WHAT COUNTS. Prove the row's statement (the work); the ties are given (YtofbiladpmcjgaaGreatDoorTie.lean); close each card by the builder's one call (the guide's Derived/Test/ToyasCard.lean, 'card_holds'). Laid BY PROGRAM, IN A SANDBOX (cutbox-door.mjs). By AI agents, Wed Nov 11 2026. No macro, syntax, notation, axiom, sorry.
-/
import Derived.Test.YtofbiladpmcjgaaGreatDoorRows
import GoSem.ClaimSeven
namespace Go.Proofs.YtofbiladpmcjgaaGreatDoor
namespace Rows

/-- THE TIED CARD OF 'cleanselaw07.LexerAgain'. -/
def lexerAgainCard : Claim7 := { stood := { row := lexerAgainRow, standIns := [], harness := (true, "7eee18c427fda9cc8422709137905ba2c4cf13f4f33c8b0dbfcbfd23e7013c36"), looks := true }, kinds := [], alts := [], laidByText := true, laidKinds := [.data, .data, .data, .sentinel, .sentinel], laidTests := true, laidLooks := .later }
def LexerAgainCardSaid : Prop := Claim7.holds Tryz.pinned (.plain (OpenSpec.ofChange lexerAgainSpec)) lexerAgainCard

/-- THE TIED CARD OF 'cleanselaw07.LexerContents'. -/
def lexerContentsCard : Claim7 := { stood := { row := lexerContentsRow, standIns := [], harness := (true, "7eee18c427fda9cc8422709137905ba2c4cf13f4f33c8b0dbfcbfd23e7013c36"), looks := true }, kinds := [], alts := [], laidByText := true, laidKinds := [.data, .data, .data, .sentinel, .sentinel], laidTests := true, laidLooks := .later }
def LexerContentsCardSaid : Prop := Claim7.holds Tryz.pinned (.plain (OpenSpec.ofChange lexerContentsSpec)) lexerContentsCard

/-- THE SECOND FORM's CARD OF 'cleanselaw07.LexerAgain'. -/
def lexerAgainUptoCard : Claim7 := { stood := { row := lexerAgainUptoRow, standIns := [], harness := (true, "7eee18c427fda9cc8422709137905ba2c4cf13f4f33c8b0dbfcbfd23e7013c36"), looks := true }, kinds := [], alts := [], laidByText := true, laidKinds := [.data, .data, .data, .sentinel, .sentinel], laidTests := true, laidLooks := .later }
def LexerAgainUptoCardSaid : Prop := Claim7.holds Tryz.pinned (.plain (OpenSpec.upto lexerAgainSpec)) lexerAgainUptoCard

/-- THE SECOND FORM's CARD OF 'cleanselaw07.LexerContents'. -/
def lexerContentsUptoCard : Claim7 := { stood := { row := lexerContentsUptoRow, standIns := [], harness := (true, "7eee18c427fda9cc8422709137905ba2c4cf13f4f33c8b0dbfcbfd23e7013c36"), looks := true }, kinds := [], alts := [], laidByText := true, laidKinds := [.data, .data, .data, .sentinel, .sentinel], laidTests := true, laidLooks := .later }
def LexerContentsUptoCardSaid : Prop := Claim7.holds Tryz.pinned (.plain (OpenSpec.upto lexerContentsSpec)) lexerContentsUptoCard
end Rows
end Go.Proofs.YtofbiladpmcjgaaGreatDoor
