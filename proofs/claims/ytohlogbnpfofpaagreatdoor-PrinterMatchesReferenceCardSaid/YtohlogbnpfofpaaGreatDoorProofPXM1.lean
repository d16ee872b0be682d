/-
  The law PrinterMatchesReference, lifted.
-/
import Derived.Test.YtohlogbnpfofpaaGreatDoorCards
import Derived.Test.YtohlogbnpfofpaaGreatDoorPX14
namespace Go.Proofs.YtohlogbnpfofpaaGreatDoor
open Go Go.ChangeShapes Go.WideShapes Go.ChangeAt Go.RowKit Go.WideElems

set_option maxRecDepth 100000 in
theorem matches_lifted (os : Os) (started : os.Started) (H : Type) (enc : TypeId × Value → H) :
    ReturnsInHanded {} Tryz.checked os 3 .any (fun w args => (Rows.printerMatchesReferenceSpec.pre enc Tryz.prog Tryz.f3 [] false w args ∧ laidMetH Tryz.prog laid3 w) ∧ sizedMet enc Tryz.prog Tryz.f3 (OpenSpec.ofChange Rows.printerMatchesReferenceSpec) false w args)
      (Rows.printerMatchesReferenceSpec.post enc Tryz.prog Tryz.f3 false true false false) := by
  refine law_lifted (C := Tryz.checked) (X := fun w _ => laidMetH Tryz.prog laid3 w) (tb := 4) #[.agg #[.slice none 0 0]] 8 (World.doorLaid Tryz.prog 400 os) (fun _ _ _ hh h => h.of_heap hh) own started (by kernel_rfl) Tryz.func3 laidOut (by kernel_rfl) rfl Tryz.underlying4 rfl (fun ds hd => ?_) rfl
    (World.shaped_of_RefB (by kernel_rfl) (by kernel_rfl)) (by kernel_rfl) (by kernel_rfl) (by kernel_rfl) (door_met os _) ?_
  · rw [Tryz.params3] at hd
    match ds, hd with
    | [d0], _ => rfl
  · intro W base args ds hin hL
    rw [Tryz.params3] at hin
    obtain ⟨v0, d0, vs0, ds0, rfl, rfl, i0, hin⟩ := hin.cons
    obtain rfl := hin.nil
    obtain ⟨u0, x0, rfl, h0, k0, z0⟩ := i0.prog
    exact matches9_spec x0 u0 _ h0 k0 z0 (words_of_laid hL) (tab_of_laid hL) (forms_of_laid hL)

end Go.Proofs.YtohlogbnpfofpaaGreatDoor
