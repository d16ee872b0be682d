/-
  What the statements' condition on the library's tables and the world's shape give, and that the program's own start meets the condition.
-/
import Derived.Test.YtemijanhigjmmaaDoorRows
import Derived.Test.YtemijanhigjmmaaDoorTie
import Derived.Test.YtemijanhigjmmaaDoorFnNum
import Derived.ProofKit
import Derived.LaidMore
import Derived.OpenShut
import Derived.Stop.Joined
import Derived.Stop.LaidErr
import Derived.Lib.LaidTab
import Derived.Shelf.Vars
namespace Go.Proofs.YtemijanhigjmmaaDoor
open Go Go.ChangeShapes Go.WideShapes Go.ChangeAt Go.RowKit

abbrev laid5 : List (String × DataW Unit) := Rows.ratioFieldRow.laid

theorem laidOut : laidOutB Tryd.prog = true := by kernel_rfl
theorem own : ownKnob Tryd.prog.godebug = none := by kernel_rfl
theorem gPow : Tryd.prog.globalNamed "internal/strconv.uint64pow10" = some 3 := by kernel_rfl
theorem tPow : (Tryd.prog.globals[3]?).map (·.type) = some 86 := by kernel_rfl
theorem cPow : Tryd.prog.cellsOf 86 = 20 := by kernel_rfl
theorem cU64 : Tryd.prog.cellsOf 28 = 1 := by kernel_rfl
theorem gSyn : Tryd.prog.globalNamed "strconv.ErrSyntax" = some 1 := by kernel_rfl
theorem tSyn : (Tryd.prog.globals[1]?).map (·.type) = some 53 := by kernel_rfl
theorem gRan : Tryd.prog.globalNamed "strconv.ErrRange" = some 2 := by kernel_rfl
theorem tRan : (Tryd.prog.globals[2]?).map (·.type) = some 53 := by kernel_rfl

theorem tab_of_laid {W : World} (h : laidMetH Tryd.prog laid5 W) : TabH W.heap := by
  rw [MakeChecks.laidMetH_plain _ _ _ (by kernel_rfl)] at h
  have h2 := laidMet.tail (laidMet.tail h)
  have e : Rows.laid_internal_strconv_uint64pow10 (H := Unit) = Lib.tabData .u64 Lib.pow10Tab := by rfl
  rw [e] at h2
  have key := Lib.tabIs_of_head gPow tPow Tryd.underlying86 Tryd.underlying28 cU64 cPow h2
  intro w hw
  unfold Lib.TabIs World.var? at key ⊢
  rw [hw]
  exact key

theorem var_cell {W : World} {n : String} {g : Nat} {u : TypeId} {p : Value} (hg : Tryd.prog.globalNamed n = some g) (h : W.var? Tryd.prog n = some #[.iface u p]) : cellAt W.heap ⟨g, 0, none⟩ = some (.iface u p) := by
  have := World.var?_cell hg h 0
  rw [cellAt_eq] at this
  simpa using this

theorem star : "*" ++ "errors.errorString" = "*errors.errorString" := by decide

theorem rowErr : ∀ u, Tryd.prog.typeName? 3 u = some "*errors.errorString" → u = 94 := fun u h =>
  typeName_ptr_named (nm := "errors.errorString") (by rw [star]; kernel_rfl) (by kernel_rfl) (by decide) u (by rw [star]; exact h)

theorem vars_of_laid {W : World} (h : laidMetH Tryd.prog laid5 W) (hs : W.ShapedOpen Tryd.prog) : VarH W.heap := by
  rw [MakeChecks.laidMetH_plain _ _ _ (by kernel_rfl)] at h
  have h3 := laidMet.tail (laidMet.tail (laidMet.tail h))
  have h4 := laidMet.tail h3
  have row : ∀ u, Tryd.prog.typeName? 3 u = some "*errors.errorString" → u = 94 := rowErr
  obtain ⟨a, _, hr, _⟩ := laid_sentinel h3 gRan tRan Tryd.underlying53 row Tryd.underlying94 Tryd.underlying96 rfl rfl Tryd.underlying9 (by kernel_rfl) (by kernel_rfl)
  obtain ⟨b, _, hy, _⟩ := laid_sentinel h4 gSyn tSyn Tryd.underlying53 row Tryd.underlying94 Tryd.underlying96 rfl rfl Tryd.underlying9 (by kernel_rfl) (by kernel_rfl)
  refine ⟨?_, ⟨_, _, var_cell gSyn hy⟩, ⟨_, _, var_cell gRan hr⟩⟩
  obtain ⟨m, hm⟩ := cell_of_shapedOpen_int hs (g := 0) (t := 3) (zero := #[.int .i64 0]) (of_decide_eq_true (by kernel_rfl)) (by kernel_rfl) rfl (by kernel_rfl) (by kernel_rfl) Tryd.underlying3
  exact ⟨m, by rw [cellAt_eq] at hm; exact hm⟩

theorem door_met (os : Os) (args : Array Value) : laidMetH Tryd.prog laid5 ((World.doorLaid Tryd.prog 400 os).forCall (fun _ _ => 0) ⟨#[], args, []⟩).memory :=
  laidMetH_of_parts3 (fuel := 8) (laidMet_of_run' 8 (by kernel_rfl) (by kernel_rfl)) (by kernel_rfl) (by kernel_rfl)

end Go.Proofs.YtemijanhigjmmaaDoor
