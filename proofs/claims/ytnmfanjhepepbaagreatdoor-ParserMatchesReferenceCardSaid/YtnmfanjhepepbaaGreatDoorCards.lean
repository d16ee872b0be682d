/-
  DERIVED. GIVEN WITH THE SEED: THE CARDS: each row of YtnmfanjhepepbaaGreatDoorRows.lean that lists a variable, with what it lists TIED to the program's text (the seventh form; the later family's looks); each row that meets fmt, with fmt's text TOLD by the authors' own Lean function (tested against real Go, not proved from fmt's source: count such statements apart). THE CARD IS WHAT COUNTS. Prove the row's statement (the work); the ties are given (YtnmfanjhepepbaaGreatDoorTie.lean); close each card by the builder's one call (the guide's Derived/Test/ToyasCard.lean, 'card_holds'). Laid BY PROGRAM, IN A SANDBOX (cutbox-door.mjs). By AI agents, Wed Nov 11 2026. No macro, syntax, notation, axiom, sorry.
-/
import Derived.Test.YtnmfanjhepepbaaGreatDoorRows
import GoSem.ClaimSeven
namespace Go.Proofs.YtnmfanjhepepbaaGreatDoor
namespace Rows

/-- THE TIED CARD OF 'cleanselaw08.ParserMatchesReference'. -/
def parserMatchesReferenceCard : Claim7 := { stood := { row := parserMatchesReferenceRow, standIns := [], harness := (true, "0f159b446d4d90a547463296ee301bb2bbce512a23a789340541ab8e3497881e"), looks := true }, kinds := [], alts := [], laidByText := true, laidKinds := [.data, .data, .data, .sentinel, .sentinel, .widerDeep], laidTests := true, laidLooks := .later }
def ParserMatchesReferenceCardSaid : Prop := Claim7.holds Tryz.pinned (.plain (OpenSpec.ofChange parserMatchesReferenceSpec)) parserMatchesReferenceCard

/-- THE TIED CARD OF 'cleanselaw08.ParserTokens'. -/
def parserTokensCard : Claim7 := { stood := { row := parserTokensRow, standIns := [], harness := (true, "0f159b446d4d90a547463296ee301bb2bbce512a23a789340541ab8e3497881e"), looks := true }, kinds := [], alts := [], laidByText := true, laidKinds := [.data, .data, .data, .sentinel, .sentinel, .widerDeep], laidTests := true, laidLooks := .later }
def ParserTokensCardSaid : Prop := Claim7.holds Tryz.pinned (.plain (OpenSpec.ofChange parserTokensSpec)) parserTokensCard

/-- THE TIED CARD OF 'cleanselaw08.ParserJoins'. -/
def parserJoinsCard : Claim7 := { stood := { row := parserJoinsRow, standIns := [], harness := (true, "0f159b446d4d90a547463296ee301bb2bbce512a23a789340541ab8e3497881e"), looks := true }, kinds := [], alts := [], laidByText := true, laidKinds := [.data, .data, .data, .sentinel, .sentinel, .widerDeep], laidTests := true, laidLooks := .later }
def ParserJoinsCardSaid : Prop := Claim7.holds Tryz.pinned (.plain (OpenSpec.ofChange parserJoinsSpec)) parserJoinsCard

/-- THE TIED CARD OF 'cleanselaw08.ParserBeginnings'. -/
def parserBeginningsCard : Claim7 := { stood := { row := parserBeginningsRow, standIns := [], harness := (true, "0f159b446d4d90a547463296ee301bb2bbce512a23a789340541ab8e3497881e"), looks := true }, kinds := [], alts := [], laidByText := true, laidKinds := [.data, .data, .data, .sentinel, .sentinel, .widerDeep], laidTests := true, laidLooks := .later }
def ParserBeginningsCardSaid : Prop := Claim7.holds Tryz.pinned (.plain (OpenSpec.ofChange parserBeginningsSpec)) parserBeginningsCard

/-- THE SECOND FORM's CARD OF 'cleanselaw08.ParserMatchesReference'. -/
def parserMatchesReferenceUptoCard : Claim7 := { stood := { row := parserMatchesReferenceUptoRow, standIns := [], harness := (true, "0f159b446d4d90a547463296ee301bb2bbce512a23a789340541ab8e3497881e"), looks := true }, kinds := [], alts := [], laidByText := true, laidKinds := [.data, .data, .data, .sentinel, .sentinel, .widerDeep], laidTests := true, laidLooks := .later }
def ParserMatchesReferenceUptoCardSaid : Prop := Claim7.holds Tryz.pinned (.plain (OpenSpec.upto parserMatchesReferenceSpec)) parserMatchesReferenceUptoCard

/-- THE SECOND FORM's CARD OF 'cleanselaw08.ParserTokens'. -/
def parserTokensUptoCard : Claim7 := { stood := { row := parserTokensUptoRow, standIns := [], harness := (true, "0f159b446d4d90a547463296ee301bb2bbce512a23a789340541ab8e3497881e"), looks := true }, kinds := [], alts := [], laidByText := true, laidKinds := [.data, .data, .data, .sentinel, .sentinel, .widerDeep], laidTests := true, laidLooks := .later }
def ParserTokensUptoCardSaid : Prop := Claim7.holds Tryz.pinned (.plain (OpenSpec.upto parserTokensSpec)) parserTokensUptoCard

/-- THE SECOND FORM's CARD OF 'cleanselaw08.ParserJoins'. -/
def parserJoinsUptoCard : Claim7 := { stood := { row := parserJoinsUptoRow, standIns := [], harness := (true, "0f159b446d4d90a547463296ee301bb2bbce512a23a789340541ab8e3497881e"), looks := true }, kinds := [], alts := [], laidByText := true, laidKinds := [.data, .data, .data, .sentinel, .sentinel, .widerDeep], laidTests := true, laidLooks := .later }
def ParserJoinsUptoCardSaid : Prop := Claim7.holds Tryz.pinned (.plain (OpenSpec.upto parserJoinsSpec)) parserJoinsUptoCard

/-- THE SECOND FORM's CARD OF 'cleanselaw08.ParserBeginnings'. -/
def parserBeginningsUptoCard : Claim7 := { stood := { row := parserBeginningsUptoRow, standIns := [], harness := (true, "0f159b446d4d90a547463296ee301bb2bbce512a23a789340541ab8e3497881e"), looks := true }, kinds := [], alts := [], laidByText := true, laidKinds := [.data, .data, .data, .sentinel, .sentinel, .widerDeep], laidTests := true, laidLooks := .later }
def ParserBeginningsUptoCardSaid : Prop := Claim7.holds Tryz.pinned (.plain (OpenSpec.upto parserBeginningsSpec)) parserBeginningsUptoCard
end Rows
end Go.Proofs.YtnmfanjhepepbaaGreatDoor
