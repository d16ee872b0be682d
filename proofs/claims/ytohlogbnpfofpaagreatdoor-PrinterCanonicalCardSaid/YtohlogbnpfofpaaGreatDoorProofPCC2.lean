/-
  The law PrinterCanonical as its row says it.
-/
import Derived.Test.YtohlogbnpfofpaaGreatDoorCards
import Derived.Test.YtohlogbnpfofpaaGreatDoorProofPCC1
import Derived.Test.YtohlogbnpfofpaaGreatDoorProofPCCK
namespace Go.Proofs.YtohlogbnpfofpaaGreatDoor
open Go Go.ChangeShapes Go.WideShapes Go.ChangeAt Go.RowKit Go.WideElems

theorem canonical_holds : Rows.PrinterCanonicalSaid :=
  OpenClaim.holds_of_wide 5 Tryz.f5 rfl rfl rfl rfl rfl rfl rfl ⟨rfl, rfl, rfl, rfl, rfl⟩ rfl rfl rfl rfl rfl canonical_named Tryz.func5 canonical_closed canonical_inst canonical_wrap
    (fun os started H enc _ => canonical_lifted os started H enc)

end Go.Proofs.YtohlogbnpfofpaaGreatDoor
