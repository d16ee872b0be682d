/-
  PROVED: the law SealSplits returns true for every input, and leaves its arguments as they were; on condition that the library's listed tables hold what the program's text lays in them (the card ties them to it).
-/
import Derived.Test.YtihnelncimkegaaDoorCards
import Derived.Test.YtihnelncimkegaaDoorLaw
import Derived.Test.YtihnelncimkegaaDoorLaid
import Derived.Test.YtihnelncimkegaaDoorFnSealP
namespace Go.Proofs.YtihnelncimkegaaDoor
open Go Go.ChangeShapes Go.WideShapes Go.ChangeAt Go.RowKit Go.WideElems

set_option maxRecDepth 100000 in
theorem splits_lifted (os : Os) (started : os.Started) (H : Type) (enc : TypeId × Value → H) :
    ReturnsInHanded {} Tryd.checked os 8 .any (fun w args => (Rows.sealSplitsSpec.pre enc Tryd.prog Tryd.f8 [] false w args ∧ laidMetH Tryd.prog laid3 w) ∧ sizedMet enc Tryd.prog Tryd.f8 (OpenSpec.ofChange Rows.sealSplitsSpec) false w args)
      (Rows.sealSplitsSpec.post enc Tryd.prog Tryd.f8 false true false false) := by
  refine law_lifted (C := Tryd.checked) (X := fun w _ => laidMetH Tryd.prog laid3 w) (tb := 4) #[.string ⟨#[]⟩, .int .u8 0, .int .u8 0] 8 (World.doorLaid Tryd.prog 400 os) (fun _ _ _ hh h => h.of_heap hh) own started (by kernel_rfl) Tryd.func8 laidOut (by kernel_rfl) rfl Tryd.underlying4 rfl (fun ds hd => ?_) rfl
    (World.shaped_of_RefB (by kernel_rfl) (by kernel_rfl)) (by kernel_rfl) (by kernel_rfl) (by kernel_rfl) (door_met os _) ?_
  · rw [Tryd.params8] at hd
    match ds, hd with
    | [d0, d1, d2], _ => rfl
  · intro W base args ds hin hL
    rw [Tryd.params8] at hin
    obtain ⟨v0, d0, vs0, ds0, rfl, rfl, i0, hin⟩ := hin.cons
    obtain ⟨v1, d1, vs1, ds1, rfl, rfl, i1, hin⟩ := hin.cons
    obtain ⟨v2, d2, vs2, ds2, rfl, rfl, i2, hin⟩ := hin.cons
    obtain rfl := hin.nil
    obtain ⟨l0, rfl, z0⟩ := i0.string Tryd.underlying9
    obtain ⟨n1, rfl, lo1, hi1⟩ := i1.int Tryd.underlying5
    replace lo1 : (0 : Int) ≤ n1 := lo1
    replace hi1 : n1 ≤ (255 : Int) := hi1
    obtain ⟨n2, rfl, lo2, hi2⟩ := i2.int Tryd.underlying5
    replace lo2 : (0 : Int) ≤ n2 := lo2
    replace hi2 : n2 ≤ (255 : Int) := hi2
    exact splits_spec l0 n1 n2 W.heap z0 lo1 hi1 lo2 hi2 (tab_of_laid hL)

theorem splits_holds : Rows.SealSplitsSaid :=
  OpenClaim.holds_of_wide 8 Tryd.f8 rfl rfl rfl rfl rfl rfl rfl ⟨rfl, rfl, rfl, rfl, rfl⟩ rfl rfl rfl rfl rfl (by kernel_rfl) Tryd.func8 (by kernel_rfl)
    (of_decide_eq_true (by kernel_rfl)) (by unfold Func.isWrapper; first | (rw [if_pos (by decide +kernel)]; kernel_rfl) | (rw [if_neg (by decide +kernel)]; exact ⟨rfl, rfl⟩))
    (fun os started H enc _ => splits_lifted os started H enc)

theorem splits_card : Rows.SealSplitsCardSaid :=
  Claim7.holds_tied_plain_at .later [] [.data, .data, .data] true _ false
    splits_holds (fun _ h => by cases h) (by kernel_rfl) (fun _ h => by cases h) sealSplits_row_tie rfl ⟨rfl, rfl⟩ (by kernel_rfl) rfl
    (fun f fn hf hfn => by
      obtain rfl : f = 8 := Option.some.inj ((show Tryd.prog.funcNamed Rows.sealSplitsRow.func = some 8 by kernel_rfl).symm.trans hf) |>.symm
      obtain rfl : fn = Tryd.f8 := (Option.some.inj (Tryd.func8.symm.trans hfn)).symm
      exact ⟨by kernel_rfl, fun j t ht => by
        rw [Tryd.params8] at ht
        have hm : t ∈ [9, 5, 5] := by simpa using Array.mem_of_getElem? ht
        have hall : ([9, 5, 5].all fun u => !Tryd.prog.wantsStandIn u) = true := by kernel_rfl
        exact (show Tryd.prog.wantsStandIn t = false by simpa using List.all_eq_true.1 hall t hm)⟩)
    (by kernel_rfl)

end Go.Proofs.YtihnelncimkegaaDoor
