import Derived.Test.YtohlogbnpfofpaaGreatDoorCards
import Derived.Test.YtohlogbnpfofpaaGreatDoorPX03
namespace Go.Proofs.YtohlogbnpfofpaaGreatDoor
open Go Go.ChangeShapes Go.WideShapes Go.ChangeAt Go.RowKit Go.WideElems

theorem mh_closed : joinedFacts Tryz.pinned.checked.prog 3 Tryz.f3 Rows.printerMatchesReferenceSpec Rows.printerMatchesReferenceRow = true := by kernel_rfl

end Go.Proofs.YtohlogbnpfofpaaGreatDoor
