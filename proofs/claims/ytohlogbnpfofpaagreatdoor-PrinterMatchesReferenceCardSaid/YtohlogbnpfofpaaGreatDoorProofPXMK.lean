/-
  The law PrinterMatchesReference: the closed facts of its row, each a lemma by itself.
-/
import Derived.ProofKit
import Derived.Stop.Joined
import Derived.LaidMore
import Derived.SevenTiedAt
import Derived.Test.YtohlogbnpfofpaaGreatDoorCards
namespace Go.Proofs.YtohlogbnpfofpaaGreatDoor
open Go Go.ChangeShapes Go.WideShapes Go.ChangeAt Go.RowKit Go.WideElems

theorem andI {a b : Bool} (ha : a = true) (hb : b = true) : (a && b) = true := by rw [ha, hb]; rfl

set_option maxHeartbeats 0 in
theorem matches_closed : joinedFacts Tryz.pinned.checked.prog 3 Tryz.f3 Rows.printerMatchesReferenceSpec Rows.printerMatchesReferenceRow = true := by
  unfold joinedFacts
  refine andI (andI (andI (andI (andI (andI (andI (andI (andI (andI (andI (andI (andI (andI (andI (andI (andI (andI (andI (andI (andI (andI (andI (andI (andI (andI (andI (andI (andI (andI (andI ?_ ?_) ?_) ?_) ?_) ?_) ?_) ?_) ?_) ?_) ?_) ?_) ?_) ?_) ?_) ?_) ?_) ?_) ?_) ?_) ?_) ?_) ?_) ?_) ?_) ?_) ?_) ?_) ?_) ?_) ?_) ?_
  all_goals (as_aux_lemma => kernel_rfl)

theorem matches_inst : Tryz.f3.isInstance Tryz.pinned.checked.prog Rows.printerMatchesReferenceRow.origin Rows.printerMatchesReferenceRow.targs := of_decide_eq_true (by kernel_rfl)

theorem matches_wrap : Tryz.f3.isWrapper Tryz.pinned.checked.prog Rows.printerMatchesReferenceRow.wrapper Rows.printerMatchesReferenceRow.mainSum := by unfold Func.isWrapper; first | (rw [if_pos (by decide +kernel)]; kernel_rfl) | (rw [if_neg (by decide +kernel)]; exact ⟨rfl, rfl⟩)

theorem matches_named : Tryz.pinned.checked.prog.funcNamed Rows.printerMatchesReferenceRow.func = some 3 := by kernel_rfl

end Go.Proofs.YtohlogbnpfofpaaGreatDoor
