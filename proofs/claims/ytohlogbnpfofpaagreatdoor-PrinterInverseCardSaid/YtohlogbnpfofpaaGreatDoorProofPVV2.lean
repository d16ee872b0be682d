/-
  The law PrinterInverse as its row says it.
-/
import Derived.Test.YtohlogbnpfofpaaGreatDoorCards
import Derived.Test.YtohlogbnpfofpaaGreatDoorProofPVV1
import Derived.Test.YtohlogbnpfofpaaGreatDoorProofPVVK
namespace Go.Proofs.YtohlogbnpfofpaaGreatDoor
open Go Go.ChangeShapes Go.WideShapes Go.ChangeAt Go.RowKit Go.WideElems

theorem inverse_holds : Rows.PrinterInverseSaid :=
  OpenClaim.holds_of_wide 4 Tryz.f4 rfl rfl rfl rfl rfl rfl rfl ⟨rfl, rfl, rfl, rfl, rfl⟩ rfl rfl rfl rfl rfl inverse_named Tryz.func4 inverse_closed inverse_inst inverse_wrap
    (fun os started H enc _ => inverse_lifted os started H enc)

end Go.Proofs.YtohlogbnpfofpaaGreatDoor
