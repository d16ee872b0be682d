/-
  The law PrinterEquality: the closed facts of its row, each a lemma by itself.
-/
import Derived.ProofKit
import Derived.Stop.Joined
import Derived.LaidMore
import Derived.SevenTiedAt
import Derived.Test.YtohlogbnpfofpaaGreatDoorCards
namespace Go.Proofs.YtohlogbnpfofpaaGreatDoor
open Go Go.ChangeShapes Go.WideShapes Go.ChangeAt Go.RowKit Go.WideElems

theorem andI {a b : Bool} (ha : a = true) (hb : b = true) : (a && b) = true := by rw [ha, hb]; rfl

set_option maxHeartbeats 0 in
theorem equality_closed : joinedFacts Tryz.pinned.checked.prog 6 Tryz.f6 Rows.printerEqualitySpec Rows.printerEqualityRow = true := by
  unfold joinedFacts
  refine andI (andI (andI (andI (andI (andI (andI (andI (andI (andI (andI (andI (andI (andI (andI (andI (andI (andI (andI (andI (andI (andI (andI (andI (andI (andI (andI (andI (andI (andI (andI ?_ ?_) ?_) ?_) ?_) ?_) ?_) ?_) ?_) ?_) ?_) ?_) ?_) ?_) ?_) ?_) ?_) ?_) ?_) ?_) ?_) ?_) ?_) ?_) ?_) ?_) ?_) ?_) ?_) ?_) ?_) ?_
  all_goals (as_aux_lemma => kernel_rfl)

theorem equality_inst : Tryz.f6.isInstance Tryz.pinned.checked.prog Rows.printerEqualityRow.origin Rows.printerEqualityRow.targs := of_decide_eq_true (by kernel_rfl)

theorem equality_wrap : Tryz.f6.isWrapper Tryz.pinned.checked.prog Rows.printerEqualityRow.wrapper Rows.printerEqualityRow.mainSum := by unfold Func.isWrapper; first | (rw [if_pos (by decide +kernel)]; kernel_rfl) | (rw [if_neg (by decide +kernel)]; exact ⟨rfl, rfl⟩)

theorem equality_named : Tryz.pinned.checked.prog.funcNamed Rows.printerEqualityRow.func = some 6 := by kernel_rfl

end Go.Proofs.YtohlogbnpfofpaaGreatDoor
