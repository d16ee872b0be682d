import Derived.Test.YtohlogbnpfofpaaGreatDoorCards
import Derived.Test.YtohlogbnpfofpaaGreatDoorPX03
namespace Go.Proofs.YtohlogbnpfofpaaGreatDoor
open Go Go.ChangeShapes Go.WideShapes Go.ChangeAt Go.RowKit Go.WideElems

theorem mh_wrap : Tryz.f3.isWrapper Tryz.pinned.checked.prog Rows.printerMatchesReferenceRow.wrapper Rows.printerMatchesReferenceRow.mainSum := by unfold Func.isWrapper; first | (rw [if_pos (by decide +kernel)]; kernel_rfl) | (rw [if_neg (by decide +kernel)]; exact ⟨rfl, rfl⟩)

theorem mh_named : Tryz.pinned.checked.prog.funcNamed Rows.printerMatchesReferenceRow.func = some 3 := by kernel_rfl

end Go.Proofs.YtohlogbnpfofpaaGreatDoor
