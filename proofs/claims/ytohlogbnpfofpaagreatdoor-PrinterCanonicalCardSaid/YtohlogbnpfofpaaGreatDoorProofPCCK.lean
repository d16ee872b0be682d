/-
  The law PrinterCanonical: the closed facts of its row, each a lemma by itself.
-/
import Derived.ProofKit
import Derived.Stop.Joined
import Derived.LaidMore
import Derived.SevenTiedAt
import Derived.Test.YtohlogbnpfofpaaGreatDoorCards
namespace Go.Proofs.YtohlogbnpfofpaaGreatDoor
open Go Go.ChangeShapes Go.WideShapes Go.ChangeAt Go.RowKit Go.WideElems

theorem andI {a b : Bool} (ha : a = true) (hb : b = true) : (a && b) = true := by rw [ha, hb]; rfl

set_option maxHeartbeats 0 in
theorem canonical_closed : joinedFacts Tryz.pinned.checked.prog 5 Tryz.f5 Rows.printerCanonicalSpec Rows.printerCanonicalRow = true := by
  unfold joinedFacts
  refine andI (andI (andI (andI (andI (andI (andI (andI (andI (andI (andI (andI (andI (andI (andI (andI (andI (andI (andI (andI (andI (andI (andI (andI (andI (andI (andI (andI (andI (andI (andI ?_ ?_) ?_) ?_) ?_) ?_) ?_) ?_) ?_) ?_) ?_) ?_) ?_) ?_) ?_) ?_) ?_) ?_) ?_) ?_) ?_) ?_) ?_) ?_) ?_) ?_) ?_) ?_) ?_) ?_) ?_) ?_
  all_goals (as_aux_lemma => kernel_rfl)

theorem canonical_inst : Tryz.f5.isInstance Tryz.pinned.checked.prog Rows.printerCanonicalRow.origin Rows.printerCanonicalRow.targs := of_decide_eq_true (by kernel_rfl)

theorem canonical_wrap : Tryz.f5.isWrapper Tryz.pinned.checked.prog Rows.printerCanonicalRow.wrapper Rows.printerCanonicalRow.mainSum := by unfold Func.isWrapper; first | (rw [if_pos (by decide +kernel)]; kernel_rfl) | (rw [if_neg (by decide +kernel)]; exact ⟨rfl, rfl⟩)

theorem canonical_named : Tryz.pinned.checked.prog.funcNamed Rows.printerCanonicalRow.func = some 5 := by kernel_rfl

end Go.Proofs.YtohlogbnpfofpaaGreatDoor
