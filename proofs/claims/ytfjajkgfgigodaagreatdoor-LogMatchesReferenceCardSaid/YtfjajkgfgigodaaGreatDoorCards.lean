/-
  DERIVED. GIVEN WITH THE SEED: THE CARDS: each row of YtfjajkgfgigodaaGreatDoorRows.lean that lists a variable, with what it lists TIED to the program's text (the seventh form; the later family's looks); each row that meets fmt, with fmt's text TOLD by the authors' own Lean function (tested against real Go, not proved from fmt's source: count such statements apart). THE CARD IS WHAT COUNTS. Prove the row's statement (the work); the ties are given (YtfjajkgfgigodaaGreatDoorTie.lean); close each card by the builder's one call (the guide's Derived/Test/ToyasCard.lean, 'card_holds'). Laid BY PROGRAM, IN A SANDBOX (cutbox-door.mjs). By AI agents, Wed Nov 11 2026. No macro, syntax, notation, axiom, sorry.
-/
import Derived.Test.YtfjajkgfgigodaaGreatDoorRows
import GoSem.ClaimSeven
namespace Go.Proofs.YtfjajkgfgigodaaGreatDoor
namespace Rows

/-- THE TIED CARD OF 'cleanselaw46.LogForeign'. -/
def logForeignCard : Claim7 := { stood := { row := logForeignRow, standIns := [], harness := (true, "103cd16699f9ef80e9d3ce27620403002c5299ce1928e7af4a3350d827af6f06"), looks := true }, kinds := [], alts := [], laidByText := true, laidKinds := [.data, .data, .data, .sentinel, .sentinel], laidTests := true, laidLooks := .later }
def LogForeignCardSaid : Prop := Claim7.holds Tryz.pinned (.plain (OpenSpec.ofChange logForeignSpec)) logForeignCard

/-- THE TIED CARD OF 'cleanselaw46.LogDamaged'. -/
def logDamagedCard : Claim7 := { stood := { row := logDamagedRow, standIns := [], harness := (true, "103cd16699f9ef80e9d3ce27620403002c5299ce1928e7af4a3350d827af6f06"), looks := true }, kinds := [], alts := [], laidByText := true, laidKinds := [.data, .data, .data, .sentinel, .sentinel], laidTests := true, laidLooks := .later }
def LogDamagedCardSaid : Prop := Claim7.holds Tryz.pinned (.plain (OpenSpec.ofChange logDamagedSpec)) logDamagedCard

/-- THE TIED CARD OF 'cleanselaw46.LogTraces'. -/
def logTracesCard : Claim7 := { stood := { row := logTracesRow, standIns := [], harness := (true, "103cd16699f9ef80e9d3ce27620403002c5299ce1928e7af4a3350d827af6f06"), looks := true }, kinds := [], alts := [], laidByText := true, laidKinds := [.data, .data, .data, .sentinel, .sentinel], laidTests := true, laidLooks := .later }
def LogTracesCardSaid : Prop := Claim7.holds Tryz.pinned (.plain (OpenSpec.ofChange logTracesSpec)) logTracesCard

/-- THE TIED CARD OF 'cleanselaw46.LogDurable'. -/
def logDurableCard : Claim7 := { stood := { row := logDurableRow, standIns := [], harness := (true, "103cd16699f9ef80e9d3ce27620403002c5299ce1928e7af4a3350d827af6f06"), looks := true }, kinds := [], alts := [], laidByText := true, laidKinds := [.data, .data, .data, .sentinel, .sentinel], laidTests := true, laidLooks := .later }
def LogDurableCardSaid : Prop := Claim7.holds Tryz.pinned (.plain (OpenSpec.ofChange logDurableSpec)) logDurableCard

/-- THE TIED CARD OF 'cleanselaw46.LogRoom'. -/
def logRoomCard : Claim7 := { stood := { row := logRoomRow, standIns := [], harness := (true, "103cd16699f9ef80e9d3ce27620403002c5299ce1928e7af4a3350d827af6f06"), looks := true }, kinds := [], alts := [], laidByText := true, laidKinds := [.data, .data, .data, .sentinel, .sentinel], laidTests := true, laidLooks := .later }
def LogRoomCardSaid : Prop := Claim7.holds Tryz.pinned (.plain (OpenSpec.ofChange logRoomSpec)) logRoomCard

/-- THE TIED CARD OF 'cleanselaw46.LogBroken'. -/
def logBrokenCard : Claim7 := { stood := { row := logBrokenRow, standIns := [], harness := (true, "103cd16699f9ef80e9d3ce27620403002c5299ce1928e7af4a3350d827af6f06"), looks := true }, kinds := [], alts := [], laidByText := true, laidKinds := [.data, .data, .data, .sentinel, .sentinel], laidTests := true, laidLooks := .later }
def LogBrokenCardSaid : Prop := Claim7.holds Tryz.pinned (.plain (OpenSpec.ofChange logBrokenSpec)) logBrokenCard

/-- THE TIED CARD OF 'cleanselaw46.LogAtomic'. -/
def logAtomicCard : Claim7 := { stood := { row := logAtomicRow, standIns := [], harness := (true, "103cd16699f9ef80e9d3ce27620403002c5299ce1928e7af4a3350d827af6f06"), looks := true }, kinds := [], alts := [], laidByText := true, laidKinds := [.data, .data, .data, .sentinel, .sentinel], laidTests := true, laidLooks := .later }
def LogAtomicCardSaid : Prop := Claim7.holds Tryz.pinned (.plain (OpenSpec.ofChange logAtomicSpec)) logAtomicCard

/-- THE TIED CARD OF 'cleanselaw46.LogMatchesReference'. -/
def logMatchesReferenceCard : Claim7 := { stood := { row := logMatchesReferenceRow, standIns := [], harness := (true, "103cd16699f9ef80e9d3ce27620403002c5299ce1928e7af4a3350d827af6f06"), looks := true }, kinds := [], alts := [], laidByText := true, laidKinds := [.data, .data, .data, .sentinel, .sentinel], laidTests := true, laidLooks := .later }
def LogMatchesReferenceCardSaid : Prop := Claim7.holds Tryz.pinned (.plain (OpenSpec.ofChange logMatchesReferenceSpec)) logMatchesReferenceCard

/-- THE SECOND FORM's CARD OF 'cleanselaw46.LogForeign'. -/
def logForeignUptoCard : Claim7 := { stood := { row := logForeignUptoRow, standIns := [], harness := (true, "103cd16699f9ef80e9d3ce27620403002c5299ce1928e7af4a3350d827af6f06"), looks := true }, kinds := [], alts := [], laidByText := true, laidKinds := [.data, .data, .data, .sentinel, .sentinel], laidTests := true, laidLooks := .later }
def LogForeignUptoCardSaid : Prop := Claim7.holds Tryz.pinned (.plain (OpenSpec.upto logForeignSpec)) logForeignUptoCard

/-- THE SECOND FORM's CARD OF 'cleanselaw46.LogDamaged'. -/
def logDamagedUptoCard : Claim7 := { stood := { row := logDamagedUptoRow, standIns := [], harness := (true, "103cd16699f9ef80e9d3ce27620403002c5299ce1928e7af4a3350d827af6f06"), looks := true }, kinds := [], alts := [], laidByText := true, laidKinds := [.data, .data, .data, .sentinel, .sentinel], laidTests := true, laidLooks := .later }
def LogDamagedUptoCardSaid : Prop := Claim7.holds Tryz.pinned (.plain (OpenSpec.upto logDamagedSpec)) logDamagedUptoCard

/-- THE SECOND FORM's CARD OF 'cleanselaw46.LogTraces'. -/
def logTracesUptoCard : Claim7 := { stood := { row := logTracesUptoRow, standIns := [], harness := (true, "103cd16699f9ef80e9d3ce27620403002c5299ce1928e7af4a3350d827af6f06"), looks := true }, kinds := [], alts := [], laidByText := true, laidKinds := [.data, .data, .data, .sentinel, .sentinel], laidTests := true, laidLooks := .later }
def LogTracesUptoCardSaid : Prop := Claim7.holds Tryz.pinned (.plain (OpenSpec.upto logTracesSpec)) logTracesUptoCard

/-- THE SECOND FORM's CARD OF 'cleanselaw46.LogDurable'. -/
def logDurableUptoCard : Claim7 := { stood := { row := logDurableUptoRow, standIns := [], harness := (true, "103cd16699f9ef80e9d3ce27620403002c5299ce1928e7af4a3350d827af6f06"), looks := true }, kinds := [], alts := [], laidByText := true, laidKinds := [.data, .data, .data, .sentinel, .sentinel], laidTests := true, laidLooks := .later }
def LogDurableUptoCardSaid : Prop := Claim7.holds Tryz.pinned (.plain (OpenSpec.upto logDurableSpec)) logDurableUptoCard

/-- THE SECOND FORM's CARD OF 'cleanselaw46.LogRoom'. -/
def logRoomUptoCard : Claim7 := { stood := { row := logRoomUptoRow, standIns := [], harness := (true, "103cd16699f9ef80e9d3ce27620403002c5299ce1928e7af4a3350d827af6f06"), looks := true }, kinds := [], alts := [], laidByText := true, laidKinds := [.data, .data, .data, .sentinel, .sentinel], laidTests := true, laidLooks := .later }
def LogRoomUptoCardSaid : Prop := Claim7.holds Tryz.pinned (.plain (OpenSpec.upto logRoomSpec)) logRoomUptoCard

/-- THE SECOND FORM's CARD OF 'cleanselaw46.LogBroken'. -/
def logBrokenUptoCard : Claim7 := { stood := { row := logBrokenUptoRow, standIns := [], harness := (true, "103cd16699f9ef80e9d3ce27620403002c5299ce1928e7af4a3350d827af6f06"), looks := true }, kinds := [], alts := [], laidByText := true, laidKinds := [.data, .data, .data, .sentinel, .sentinel], laidTests := true, laidLooks := .later }
def LogBrokenUptoCardSaid : Prop := Claim7.holds Tryz.pinned (.plain (OpenSpec.upto logBrokenSpec)) logBrokenUptoCard

/-- THE SECOND FORM's CARD OF 'cleanselaw46.LogAtomic'. -/
def logAtomicUptoCard : Claim7 := { stood := { row := logAtomicUptoRow, standIns := [], harness := (true, "103cd16699f9ef80e9d3ce27620403002c5299ce1928e7af4a3350d827af6f06"), looks := true }, kinds := [], alts := [], laidByText := true, laidKinds := [.data, .data, .data, .sentinel, .sentinel], laidTests := true, laidLooks := .later }
def LogAtomicUptoCardSaid : Prop := Claim7.holds Tryz.pinned (.plain (OpenSpec.upto logAtomicSpec)) logAtomicUptoCard

/-- THE SECOND FORM's CARD OF 'cleanselaw46.LogMatchesReference'. -/
def logMatchesReferenceUptoCard : Claim7 := { stood := { row := logMatchesReferenceUptoRow, standIns := [], harness := (true, "103cd16699f9ef80e9d3ce27620403002c5299ce1928e7af4a3350d827af6f06"), looks := true }, kinds := [], alts := [], laidByText := true, laidKinds := [.data, .data, .data, .sentinel, .sentinel], laidTests := true, laidLooks := .later }
def LogMatchesReferenceUptoCardSaid : Prop := Claim7.holds Tryz.pinned (.plain (OpenSpec.upto logMatchesReferenceSpec)) logMatchesReferenceUptoCard
end Rows
end Go.Proofs.YtfjajkgfgigodaaGreatDoor
