import Derived.Test.YtohlogbnpfofpaaGreatDoorCards
import Derived.Test.YtohlogbnpfofpaaGreatDoorPX03
namespace Go.Proofs.YtohlogbnpfofpaaGreatDoor
open Go Go.ChangeShapes Go.WideShapes Go.ChangeAt Go.RowKit Go.WideElems

theorem mh_inst : Tryz.f3.isInstance Tryz.pinned.checked.prog Rows.printerMatchesReferenceRow.origin Rows.printerMatchesReferenceRow.targs := of_decide_eq_true (by kernel_rfl)

end Go.Proofs.YtohlogbnpfofpaaGreatDoor
