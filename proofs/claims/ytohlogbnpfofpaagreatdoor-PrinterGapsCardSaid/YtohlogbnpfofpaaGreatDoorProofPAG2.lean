/-
  The law PrinterGaps as its row says it.
-/
import Derived.Test.YtohlogbnpfofpaaGreatDoorCards
import Derived.Test.YtohlogbnpfofpaaGreatDoorProofPAG1
import Derived.Test.YtohlogbnpfofpaaGreatDoorProofPAGK
namespace Go.Proofs.YtohlogbnpfofpaaGreatDoor
open Go Go.ChangeShapes Go.WideShapes Go.ChangeAt Go.RowKit Go.WideElems

theorem gaps_holds : Rows.PrinterGapsSaid :=
  OpenClaim.holds_of_wide 8 Tryz.f8 rfl rfl rfl rfl rfl rfl rfl ⟨rfl, rfl, rfl, rfl, rfl⟩ rfl rfl rfl rfl rfl gaps_named Tryz.func8 gaps_closed gaps_inst gaps_wrap
    (fun os started H enc _ => gaps_lifted os started H enc)

end Go.Proofs.YtohlogbnpfofpaaGreatDoor
