/-
  The law PrinterEquality, lifted.
-/
import Derived.Test.YtohlogbnpfofpaaGreatDoorCards
import Derived.Test.YtohlogbnpfofpaaGreatDoorPE14
namespace Go.Proofs.YtohlogbnpfofpaaGreatDoor
open Go Go.ChangeShapes Go.WideShapes Go.ChangeAt Go.RowKit Go.WideElems

set_option maxRecDepth 100000 in
theorem equality_lifted (os : Os) (started : os.Started) (H : Type) (enc : TypeId × Value → H) :
    ReturnsInHanded {} Tryz.checked os 6 .any (fun w args => (Rows.printerEqualitySpec.pre enc Tryz.prog Tryz.f6 [] false w args ∧ laidMetH Tryz.prog laid3 w) ∧ sizedMet enc Tryz.prog Tryz.f6 (OpenSpec.ofChange Rows.printerEqualitySpec) false w args)
      (Rows.printerEqualitySpec.post enc Tryz.prog Tryz.f6 false true false false) := by
  refine law_lifted (C := Tryz.checked) (X := fun w _ => laidMetH Tryz.prog laid3 w) (tb := 4) #[.agg #[.slice none 0 0], .agg #[.slice none 0 0], .int .i64 0] 8 (World.doorLaid Tryz.prog 400 os) (fun _ _ _ hh h => h.of_heap hh) own started (by kernel_rfl) Tryz.func6 laidOut (by kernel_rfl) rfl Tryz.underlying4 rfl (fun ds hd => ?_) rfl
    (World.shaped_of_RefB (by kernel_rfl) (by kernel_rfl)) (by kernel_rfl) (by kernel_rfl) (by kernel_rfl) (door_met os _) ?_
  · rw [Tryz.params6] at hd
    match ds, hd with
    | [d0, d1, d2], _ => rfl
  · intro W base args ds hin hL
    rw [Tryz.params6] at hin
    obtain ⟨v0, d0, vs0, ds0, rfl, rfl, i0, hin⟩ := hin.cons
    obtain ⟨v1, d1, vs1, ds1, rfl, rfl, i1, hin⟩ := hin.cons
    obtain ⟨v2, d2, vs2, ds2, rfl, rfl, i2, hin⟩ := hin.cons
    obtain rfl := hin.nil
    obtain ⟨u0, x0, rfl, h0, k0, z0⟩ := i0.prog
    obtain ⟨u1, x1, rfl, h1, k1, z1⟩ := i1.prog
    obtain ⟨n2, rfl, lo2, hi2⟩ := i2.int Tryz.underlying3
    replace lo2 : (-9223372036854775808 : Int) ≤ n2 := lo2
    replace hi2 : n2 ≤ (9223372036854775807 : Int) := hi2
    exact equality9_spec x0 x1 u0 u1 n2 _ lo2 hi2 h0 k0 z0 h1 k1 z1 (words_of_laid hL) (tab_of_laid hL) (forms_of_laid hL)

end Go.Proofs.YtohlogbnpfofpaaGreatDoor
