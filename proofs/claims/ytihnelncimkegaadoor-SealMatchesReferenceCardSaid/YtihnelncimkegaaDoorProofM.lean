/-
  PROVED: the law SealMatchesReference returns true for every input, and leaves its arguments as they were; on condition that the library's listed tables hold what the program's text lays in them (the card ties them to it).
-/
import Derived.Test.YtihnelncimkegaaDoorCards
import Derived.Test.YtihnelncimkegaaDoorLaw
import Derived.Test.YtihnelncimkegaaDoorLaid
import Derived.Test.YtihnelncimkegaaDoorFnSealM
namespace Go.Proofs.YtihnelncimkegaaDoor
open Go Go.ChangeShapes Go.WideShapes Go.ChangeAt Go.RowKit Go.WideElems

set_option maxRecDepth 100000 in
theorem matches_lifted (os : Os) (started : os.Started) (H : Type) (enc : TypeId × Value → H) :
    ReturnsInHanded {} Tryd.checked os 3 .any (fun w args => (Rows.sealMatchesReferenceSpec.pre enc Tryd.prog Tryd.f3 [] false w args ∧ laidMetH Tryd.prog laid3 w) ∧ sizedMet enc Tryd.prog Tryd.f3 (OpenSpec.ofChange Rows.sealMatchesReferenceSpec) false w args)
      (Rows.sealMatchesReferenceSpec.post enc Tryd.prog Tryd.f3 false true false false) := by
  refine law_lifted (C := Tryd.checked) (X := fun w _ => laidMetH Tryd.prog laid3 w) (tb := 4) #[.int .i64 0, .int .i64 0, .string ⟨#[]⟩, .string ⟨#[]⟩, .string ⟨#[]⟩, .slice none 0 0] 8 (World.doorLaid Tryd.prog 400 os) (fun _ _ _ hh h => h.of_heap hh) own started (by kernel_rfl) Tryd.func3 laidOut (by kernel_rfl) rfl Tryd.underlying4 rfl (fun ds hd => ?_) rfl
    (World.shaped_of_RefB (by kernel_rfl) (by kernel_rfl)) (by kernel_rfl) (by kernel_rfl) (by kernel_rfl) (door_met os _) ?_
  · rw [Tryd.params3] at hd
    match ds, hd with
    | [d0, d1, d2, d3, d4, d5], _ => rfl
  · intro W base args ds hin hL
    rw [Tryd.params3] at hin
    obtain ⟨v0, d0, vs0, ds0, rfl, rfl, i0, hin⟩ := hin.cons
    obtain ⟨v1, d1, vs1, ds1, rfl, rfl, i1, hin⟩ := hin.cons
    obtain ⟨v2, d2, vs2, ds2, rfl, rfl, i2, hin⟩ := hin.cons
    obtain ⟨v3, d3, vs3, ds3, rfl, rfl, i3, hin⟩ := hin.cons
    obtain ⟨v4, d4, vs4, ds4, rfl, rfl, i4, hin⟩ := hin.cons
    obtain ⟨v5, d5, vs5, ds5, rfl, rfl, i5, hin⟩ := hin.cons
    obtain rfl := hin.nil
    obtain ⟨n0, rfl, lo0, hi0⟩ := i0.int Tryd.underlying3
    replace lo0 : (-9223372036854775808 : Int) ≤ n0 := lo0
    replace hi0 : n0 ≤ (9223372036854775807 : Int) := hi0
    obtain ⟨n1, rfl, lo1, hi1⟩ := i1.int Tryd.underlying3
    replace lo1 : (-9223372036854775808 : Int) ≤ n1 := lo1
    replace hi1 : n1 ≤ (9223372036854775807 : Int) := hi1
    obtain ⟨l2, rfl, z2⟩ := i2.string Tryd.underlying9
    obtain ⟨l3, rfl, z3⟩ := i3.string Tryd.underlying9
    obtain ⟨l4, rfl, z4⟩ := i4.string Tryd.underlying9
    obtain ⟨x5, arr5, len5, all5⟩ := i5.strs (by_ := 16) Tryd.underlying22 Tryd.underlying9 (by kernel_rfl) (by kernel_rfl)
    exact matches_spec n0 n1 l2 l3 l4 x5 _ W.heap arr5 (by omega) (by omega) (by omega) (by omega) (tab_of_laid hL)

theorem matches_holds : Rows.SealMatchesReferenceSaid :=
  OpenClaim.holds_of_wide 3 Tryd.f3 rfl rfl rfl rfl rfl rfl rfl ⟨rfl, rfl, rfl, rfl, rfl⟩ rfl rfl rfl rfl rfl (by kernel_rfl) Tryd.func3 (by kernel_rfl)
    (of_decide_eq_true (by kernel_rfl)) (by unfold Func.isWrapper; first | (rw [if_pos (by decide +kernel)]; kernel_rfl) | (rw [if_neg (by decide +kernel)]; exact ⟨rfl, rfl⟩))
    (fun os started H enc _ => matches_lifted os started H enc)

theorem matches_card : Rows.SealMatchesReferenceCardSaid :=
  Claim7.holds_tied_plain_at .later [] [.data, .data, .data] true _ false
    matches_holds (fun _ h => by cases h) (by kernel_rfl) (fun _ h => by cases h) sealMatchesReference_row_tie rfl ⟨rfl, rfl⟩ (by kernel_rfl) rfl
    (fun f fn hf hfn => by
      obtain rfl : f = 3 := Option.some.inj ((show Tryd.prog.funcNamed Rows.sealMatchesReferenceRow.func = some 3 by kernel_rfl).symm.trans hf) |>.symm
      obtain rfl : fn = Tryd.f3 := (Option.some.inj (Tryd.func3.symm.trans hfn)).symm
      exact ⟨by kernel_rfl, fun j t ht => by
        rw [Tryd.params3] at ht
        have hm : t ∈ [3, 3, 9, 9, 9, 22] := by simpa using Array.mem_of_getElem? ht
        have hall : ([3, 3, 9, 9, 9, 22].all fun u => !Tryd.prog.wantsStandIn u) = true := by kernel_rfl
        exact (show Tryd.prog.wantsStandIn t = false by simpa using List.all_eq_true.1 hall t hm)⟩)
    (by kernel_rfl)

end Go.Proofs.YtihnelncimkegaaDoor
