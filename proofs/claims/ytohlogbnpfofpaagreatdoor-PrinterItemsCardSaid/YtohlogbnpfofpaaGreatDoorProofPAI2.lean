/-
  The law PrinterItems as its row says it.
-/
import Derived.Test.YtohlogbnpfofpaaGreatDoorCards
import Derived.Test.YtohlogbnpfofpaaGreatDoorProofPAI1
import Derived.Test.YtohlogbnpfofpaaGreatDoorProofPAIK
namespace Go.Proofs.YtohlogbnpfofpaaGreatDoor
open Go Go.ChangeShapes Go.WideShapes Go.ChangeAt Go.RowKit Go.WideElems

theorem items_holds : Rows.PrinterItemsSaid :=
  OpenClaim.holds_of_wide 7 Tryz.f7 rfl rfl rfl rfl rfl rfl rfl ⟨rfl, rfl, rfl, rfl, rfl⟩ rfl rfl rfl rfl rfl items_named Tryz.func7 items_closed items_inst items_wrap
    (fun os started H enc _ => items_lifted os started H enc)

end Go.Proofs.YtohlogbnpfofpaaGreatDoor
