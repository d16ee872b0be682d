/-
  The law PrinterMatchesReference as its row says it.
-/
import Derived.Test.YtohlogbnpfofpaaGreatDoorCards
import Derived.Test.YtohlogbnpfofpaaGreatDoorProofPXM1
import Derived.Test.YtohlogbnpfofpaaGreatDoorProofPXMK
namespace Go.Proofs.YtohlogbnpfofpaaGreatDoor
open Go Go.ChangeShapes Go.WideShapes Go.ChangeAt Go.RowKit Go.WideElems

theorem matches_holds : Rows.PrinterMatchesReferenceSaid :=
  OpenClaim.holds_of_wide 3 Tryz.f3 rfl rfl rfl rfl rfl rfl rfl ⟨rfl, rfl, rfl, rfl, rfl⟩ rfl rfl rfl rfl rfl matches_named Tryz.func3 matches_closed matches_inst matches_wrap
    (fun os started H enc _ => matches_lifted os started H enc)

end Go.Proofs.YtohlogbnpfofpaaGreatDoor
