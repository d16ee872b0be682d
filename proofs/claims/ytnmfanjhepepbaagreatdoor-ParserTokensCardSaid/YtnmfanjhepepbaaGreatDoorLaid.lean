/-
  What the statements' condition on the program's listed variables gives, and that the program's own start meets it.
-/
import Derived.Test.YtnmfanjhepepbaaGreatDoorRows
import Derived.Test.YtnmfanjhepepbaaGreatDoorTie
import Derived.Test.YtnmfanjhepepbaaGreatDoorMPe
import Derived.ProofKit
import Derived.LaidMore
import Derived.OpenShut
import Derived.Stop.Joined
import Derived.Stop.LaidErr
import Derived.Lib.LaidTab
import Derived.Shelf.Vars
set_option linter.all false
namespace Go.Proofs.YtnmfanjhepepbaaGreatDoor
open Go Go.ChangeShapes Go.WideShapes Go.ChangeAt Go.RowKit

abbrev laid3 : List (String × DataW Unit) := Rows.parserJoinsRow.laid

theorem laidOut : laidOutB Tryz.prog = true := by kernel_rfl
theorem own : ownKnob Tryz.prog.godebug = none := by kernel_rfl
theorem gWords : Tryz.prog.globalNamed "cleanse/parser.words" = some 0 := by kernel_rfl
theorem tWords : (Tryz.prog.globals[0]?).map (·.type) = some 88 := by kernel_rfl
theorem cWords : Tryz.prog.cellsOf 88 = 10 := by kernel_rfl
theorem cStr : Tryz.prog.cellsOf 9 = 1 := by kernel_rfl

/-- An array of texts that reads as listed holds them, cell for cell. -/
theorem cells_of_strs {H : Type} {enc : TypeId × Value → H} {P : Program} {w : World} {base : Nat} {sp : Nat → Bool} {held : Bool} {fuel : Nat} {t e : TypeId} {n : Nat} {cs : List Value} {zs : List (List UInt8)} {p : List MemPlace}
    (ht : P.underlying t = some (.array n e)) (he : P.underlying e = some .string) (hce : P.cellsOf e = 1) (hct : P.cellsOf t = n)
    (h : DataW.trod enc P w base sp held fuel t cs = some (.agg (zs.map fun z => .lit (.string z)), p)) : cs = strs zs := by
  obtain ⟨xs, m, _, hx, hl, hxl, hi⟩ := DataW.trod_array ht h
  have hxs : xs.map (·.1) = zs.map fun z => (DataW.lit (.string z) : DataW H) := by
    have := congrArg Prod.fst hx
    simpa using this.symm
  have hzl : zs.length = n := by
    have := congrArg List.length hxs
    simp at this
    omega
  rw [hct] at hl
  apply List.ext_getElem?
  intro i
  by_cases hin : i < n
  · have h1 := hi i hin
    rw [hce, Nat.mul_one] at h1
    cases hy : xs[i]? with
    | none => rw [List.getElem?_eq_none_iff] at hy; omega
    | some y =>
      rw [hy] at h1
      obtain ⟨s, hc, hz, _⟩ := DataW.trod_string he h1
      have hci : cs[i]? = some (.string s) := by
        have := congrArg (·[0]?) hc
        simpa [List.getElem?_take, List.getElem?_drop] using this
      have h2 : (xs.map (·.1))[i]? = some y.1 := by simp [hy]
      rw [hxs, hz] at h2
      simp only [List.getElem?_map, Option.map_eq_some_iff, DataW.lit.injEq, Lit.string.injEq] at h2
      obtain ⟨z, hzi, hzs⟩ := h2
      rw [hci]
      simp only [strs, List.getElem?_map, hzi, Option.map_some, Option.some.injEq]
      obtain ⟨⟨sd⟩⟩ := s
      simp only at hzs
      rw [hzs]
  · rw [List.getElem?_eq_none (by omega), List.getElem?_eq_none (by simp [strs]; omega)]

theorem words_of_laid {W : World} (h : laidMetH Tryz.prog laid3 W) : WordsH W.heap := by
  rw [MakeChecks.laidMetH_plain _ _ _ (by kernel_rfl)] at h
  have h2 := laidMet.tail (laidMet.tail (laidMet.tail (laidMet.tail (laidMet.tail h))))
  obtain ⟨ps, ⟨g', t', cs, fuel, p, q, hg', ht', hvar, hd, _, _⟩, _⟩ := h2
  obtain rfl := Option.some.inj (gWords.symm.trans hg')
  obtain rfl := Option.some.inj (tWords.symm.trans ht')
  have e : Rows.laid_cleanse_parser_words (H := Unit) = .agg (itWords.map fun z => .lit (.string z)) := by rfl
  rw [e] at hd
  have hc := cells_of_strs Tryz.underlying88 Tryz.underlying9 cStr cWords hd
  intro i hi
  have := World.var?_cell gWords hvar i
  rw [cellAt_eq] at this
  rw [this, ← hc]
  simp

theorem door_met (os : Os) (args : Array Value) : laidMetH Tryz.prog laid3 ((World.doorLaid Tryz.prog 400 os).forCall (fun _ _ => 0) ⟨#[], args, []⟩).memory :=
  laidMetH_of_parts3 (fuel := 8) (laidMet_of_run' 8 (by kernel_rfl) (by kernel_rfl)) (by kernel_rfl) (by kernel_rfl)

end Go.Proofs.YtnmfanjhepepbaaGreatDoor
