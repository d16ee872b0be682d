/-
  The law PrinterEquality as its row says it.
-/
import Derived.Test.YtohlogbnpfofpaaGreatDoorCards
import Derived.Test.YtohlogbnpfofpaaGreatDoorProofPE1
import Derived.Test.YtohlogbnpfofpaaGreatDoorProofPEK
namespace Go.Proofs.YtohlogbnpfofpaaGreatDoor
open Go Go.ChangeShapes Go.WideShapes Go.ChangeAt Go.RowKit Go.WideElems

theorem equality_holds : Rows.PrinterEqualitySaid :=
  OpenClaim.holds_of_wide 6 Tryz.f6 rfl rfl rfl rfl rfl rfl rfl ⟨rfl, rfl, rfl, rfl, rfl⟩ rfl rfl rfl rfl rfl equality_named Tryz.func6 equality_closed equality_inst equality_wrap
    (fun os started H enc _ => equality_lifted os started H enc)

end Go.Proofs.YtohlogbnpfofpaaGreatDoor
