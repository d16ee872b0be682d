/-
  What the statements' condition on the library's tables gives, and that the program's own start meets the condition.
-/
import Derived.Test.YtffpaippmfafjaaGreatDoorRows
import Derived.Test.YtffpaippmfafjaaGreatDoorTie
import Derived.Test.YtffpaippmfafjaaGreatDoorFnBld
import Derived.ProofKit
import Derived.LaidMore
import Derived.OpenShut
import Derived.Stop.Joined
import Derived.Stop.LaidErr
import Derived.Lib.LaidTab
import Derived.Shelf.Vars
namespace Go.Proofs.YtffpaippmfafjaaGreatDoor
open Go Go.ChangeShapes Go.WideShapes Go.ChangeAt Go.RowKit

abbrev laid5 : List (String × DataW Unit) := Rows.valueOrderRow.laid

theorem laidOut : laidOutB Tryz.prog = true := by kernel_rfl
theorem own : ownKnob Tryz.prog.godebug = none := by kernel_rfl
theorem gPow : Tryz.prog.globalNamed "internal/strconv.uint64pow10" = some 2 := by kernel_rfl
theorem tPow : (Tryz.prog.globals[2]?).map (·.type) = some 149 := by kernel_rfl
theorem cPow : Tryz.prog.cellsOf 149 = 20 := by kernel_rfl
theorem cU64 : Tryz.prog.cellsOf 74 = 1 := by kernel_rfl
theorem gSyn : Tryz.prog.globalNamed "strconv.ErrSyntax" = some 0 := by kernel_rfl
theorem tSyn : (Tryz.prog.globals[0]?).map (·.type) = some 65 := by kernel_rfl
theorem gRan : Tryz.prog.globalNamed "strconv.ErrRange" = some 1 := by kernel_rfl
theorem tRan : (Tryz.prog.globals[1]?).map (·.type) = some 65 := by kernel_rfl

theorem tab_of_laid {W : World} (h : laidMetH Tryz.prog laid5 W) : TabH W.heap := by
  rw [MakeChecks.laidMetH_plain _ _ _ (by kernel_rfl)] at h
  have h2 := laidMet.tail (laidMet.tail h)
  have e : Rows.laid_internal_strconv_uint64pow10 (H := Unit) = Lib.tabData .u64 Lib.pow10Tab := by rfl
  rw [e] at h2
  have key := Lib.tabIs_of_head gPow tPow Tryz.underlying149 Tryz.underlying74 cU64 cPow h2
  intro w hw
  unfold Lib.TabIs World.var? at key ⊢
  rw [hw]
  exact key

theorem var_cell {W : World} {n : String} {g : Nat} {u : TypeId} {p : Value} (hg : Tryz.prog.globalNamed n = some g) (h : W.var? Tryz.prog n = some #[.iface u p]) : cellAt W.heap ⟨g, 0, none⟩ = some (.iface u p) := by
  have := World.var?_cell hg h 0
  rw [cellAt_eq] at this
  simpa using this

theorem star : "*" ++ "errors.errorString" = "*errors.errorString" := by decide

theorem rowErr : ∀ u, Tryz.prog.typeName? 3 u = some "*errors.errorString" → u = 154 := fun u h =>
  typeName_ptr_named (nm := "errors.errorString") (by rw [star]; kernel_rfl) (by kernel_rfl) (by decide) u (by rw [star]; exact h)

theorem vars_of_laid {W : World} (h : laidMetH Tryz.prog laid5 W) : VarH W.heap := by
  rw [MakeChecks.laidMetH_plain _ _ _ (by kernel_rfl)] at h
  have h3 := laidMet.tail (laidMet.tail (laidMet.tail h))
  have h4 := laidMet.tail h3
  have row : ∀ u, Tryz.prog.typeName? 3 u = some "*errors.errorString" → u = 154 := rowErr
  obtain ⟨a, _, hr, _⟩ := laid_sentinel h3 gRan tRan Tryz.underlying65 row Tryz.underlying154 Tryz.underlying156 rfl rfl Tryz.underlying9 (by kernel_rfl) (by kernel_rfl)
  obtain ⟨b, _, hy, _⟩ := laid_sentinel h4 gSyn tSyn Tryz.underlying65 row Tryz.underlying154 Tryz.underlying156 rfl rfl Tryz.underlying9 (by kernel_rfl) (by kernel_rfl)
  exact ⟨⟨_, _, var_cell gSyn hy⟩, ⟨_, _, var_cell gRan hr⟩⟩

theorem door_met (os : Os) (args : Array Value) : laidMetH Tryz.prog laid5 ((World.doorLaid Tryz.prog 400 os).forCall (fun _ _ => 0) ⟨#[], args, []⟩).memory :=
  laidMetH_of_parts3 (fuel := 8) (laidMet_of_run' 8 (by kernel_rfl) (by kernel_rfl)) (by kernel_rfl) (by kernel_rfl)

end Go.Proofs.YtffpaippmfafjaaGreatDoor
