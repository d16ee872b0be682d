/-
  What the statements' condition on the library's tables gives, and that the program's own start meets it.
-/
import Derived.Test.YtfjajkgfgigodaaGreatDoorRows
import Derived.Test.YtfjajkgfgigodaaGreatDoorTie
import Derived.Test.YtfjajkgfgigodaaGreatDoorMSe
import Derived.ProofKit
import Derived.LaidMore
import Derived.OpenShut
import Derived.Stop.Joined
import Derived.Stop.LaidErr
import Derived.Lib.LaidTab
/- What the statements' condition on the library's tables gives, and that the program's own start meets it. -/
/- What the statements' condition on the library's tables gives, and that the program's own start meets it. -/
/- What the statements' condition on the library's tables gives, and that the program's own start meets it. -/
/- What the statements' condition on the library's tables gives, and that the program's own start meets it. -/
namespace Go.Proofs.YtfjajkgfgigodaaGreatDoor
open Go Go.ChangeShapes Go.WideShapes Go.ChangeAt Go.RowKit

abbrev laid3 : List (String × DataW Unit) := Rows.logForeignRow.laid

theorem laidOut : laidOutB Tryz.prog = true := by kernel_rfl
theorem own : ownKnob Tryz.prog.godebug = none := by kernel_rfl
theorem gPow : Tryz.prog.globalNamed "internal/strconv.uint64pow10" = some 3 := by kernel_rfl
theorem tPow : (Tryz.prog.globals[3]?).map (·.type) = some 180 := by kernel_rfl
theorem c82 : Tryz.prog.cellsOf 180 = 20 := by kernel_rfl
theorem c76 : Tryz.prog.cellsOf 149 = 1 := by kernel_rfl

theorem tab_of_laid {W : World} (h : laidMetH Tryz.prog laid3 W) : TabH W.heap := by
  rw [MakeChecks.laidMetH_plain _ _ _ (by kernel_rfl)] at h
  have h2 := laidMet.tail (laidMet.tail h)
  have e : Rows.laid_internal_strconv_uint64pow10 (H := Unit) = Lib.tabData .u64 Lib.pow10Tab := by rfl
  rw [e] at h2
  have key := Lib.tabIs_of_head gPow tPow Tryz.underlying180 Tryz.underlying149 c76 c82 h2
  intro w hw
  unfold Lib.TabIs World.var? at key ⊢
  rw [hw]
  exact key

theorem door_met (os : Os) (args : Array Value) : laidMetH Tryz.prog laid3 ((World.doorLaid Tryz.prog 400 os).forCall (fun _ _ => 0) ⟨#[], args, []⟩).memory :=
  laidMetH_of_parts3 (fuel := 8) (laidMet_of_run' 8 (by kernel_rfl) (by kernel_rfl)) (by kernel_rfl) (by kernel_rfl)

end Go.Proofs.YtfjajkgfgigodaaGreatDoor
