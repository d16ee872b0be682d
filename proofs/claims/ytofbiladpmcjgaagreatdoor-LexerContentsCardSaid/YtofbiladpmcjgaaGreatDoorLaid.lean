/-
  What the statements' condition on the library's tables gives, and that the program's own start meets it.
-/
import Derived.Test.YtofbiladpmcjgaaGreatDoorRows
import Derived.Test.YtofbiladpmcjgaaGreatDoorTie
import Derived.Test.YtofbiladpmcjgaaGreatDoorFnVal
import Derived.ProofKit
import Derived.LaidMore
import Derived.OpenShut
import Derived.Stop.Joined
import Derived.Stop.LaidErr
import Derived.Lib.LaidTab
import Derived.Shelf.Vars
namespace Go.Proofs.YtofbiladpmcjgaaGreatDoor
open Go Go.ChangeShapes Go.WideShapes Go.ChangeAt Go.RowKit

abbrev laid3 : List (String × DataW Unit) := Rows.lexerAgainRow.laid

theorem laidOut : laidOutB Tryz.prog = true := by kernel_rfl
theorem own : ownKnob Tryz.prog.godebug = none := by kernel_rfl
theorem gPow : Tryz.prog.globalNamed "internal/strconv.uint64pow10" = some 3 := by kernel_rfl
theorem tPow : (Tryz.prog.globals[3]?).map (·.type) = some 134 := by kernel_rfl
theorem cPow : Tryz.prog.cellsOf 134 = 20 := by kernel_rfl
theorem cU64 : Tryz.prog.cellsOf 107 = 1 := by kernel_rfl

theorem tab_of_laid {W : World} (h : laidMetH Tryz.prog laid3 W) : TabH W.heap := by
  rw [MakeChecks.laidMetH_plain _ _ _ (by kernel_rfl)] at h
  have h2 := laidMet.tail (laidMet.tail h)
  have e : Rows.laid_internal_strconv_uint64pow10 (H := Unit) = Lib.tabData .u64 Lib.pow10Tab := by rfl
  rw [e] at h2
  have key := Lib.tabIs_of_head gPow tPow Tryz.underlying134 Tryz.underlying107 cU64 cPow h2
  intro w hw
  unfold Lib.TabIs World.var? at key ⊢
  rw [hw]
  exact key

theorem door_met (os : Os) (args : Array Value) : laidMetH Tryz.prog laid3 ((World.doorLaid Tryz.prog 400 os).forCall (fun _ _ => 0) ⟨#[], args, []⟩).memory :=
  laidMetH_of_parts3 (fuel := 8) (laidMet_of_run' 8 (by kernel_rfl) (by kernel_rfl)) (by kernel_rfl) (by kernel_rfl)

end Go.Proofs.YtofbiladpmcjgaaGreatDoor
