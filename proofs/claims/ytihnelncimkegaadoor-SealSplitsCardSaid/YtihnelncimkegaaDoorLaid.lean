/-
  What the statements' condition on the library's tables gives, and that the program's own start meets it.
-/
import Derived.Test.YtihnelncimkegaaDoorRows
import Derived.Test.YtihnelncimkegaaDoorTie
import Derived.Test.YtihnelncimkegaaDoorFnSealHead
import Derived.ProofKit
import Derived.LaidMore
import Derived.OpenShut
import Derived.Stop.Joined
import Derived.Stop.LaidErr
import Derived.Lib.LaidTab
namespace Go.Proofs.YtihnelncimkegaaDoor
open Go Go.ChangeShapes Go.WideShapes Go.ChangeAt Go.RowKit

abbrev laid3 : List (String × DataW Unit) := Rows.sealInverseRow.laid

theorem laidOut : laidOutB Tryd.prog = true := by kernel_rfl
theorem own : ownKnob Tryd.prog.godebug = none := by kernel_rfl
theorem gPow : Tryd.prog.globalNamed "internal/strconv.uint64pow10" = some 1 := by kernel_rfl
theorem tPow : (Tryd.prog.globals[1]?).map (·.type) = some 82 := by kernel_rfl
theorem c82 : Tryd.prog.cellsOf 82 = 20 := by kernel_rfl
theorem c76 : Tryd.prog.cellsOf 76 = 1 := by kernel_rfl

theorem tab_of_laid {W : World} (h : laidMetH Tryd.prog laid3 W) : TabH W.heap := by
  rw [MakeChecks.laidMetH_plain _ _ _ (by kernel_rfl)] at h
  have h2 := laidMet.tail (laidMet.tail h)
  have e : Rows.laid_internal_strconv_uint64pow10 (H := Unit) = Lib.tabData .u64 Lib.pow10Tab := by rfl
  rw [e] at h2
  have key := Lib.tabIs_of_head gPow tPow Tryd.underlying82 Tryd.underlying76 c76 c82 h2
  intro w hw
  unfold Lib.TabIs World.var? at key ⊢
  rw [hw]
  exact key

theorem door_met (os : Os) (args : Array Value) : laidMetH Tryd.prog laid3 ((World.doorLaid Tryd.prog 400 os).forCall (fun _ _ => 0) ⟨#[], args, []⟩).memory :=
  laidMetH_of_parts3 (fuel := 8) (laidMet_of_run' 8 (by kernel_rfl) (by kernel_rfl)) (by kernel_rfl) (by kernel_rfl)

end Go.Proofs.YtihnelncimkegaaDoor
