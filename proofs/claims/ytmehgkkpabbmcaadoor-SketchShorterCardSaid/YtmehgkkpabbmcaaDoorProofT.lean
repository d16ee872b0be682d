/-
  PROVED: the law SketchShorter returns true for every input, and leaves its arguments as they were; on condition that the library's listed tables hold what the program's text lays in them (the card ties them to it).
-/
import Derived.Test.YtmehgkkpabbmcaaDoorCards
import Derived.Test.YtmehgkkpabbmcaaDoorLaw
import Derived.Test.YtmehgkkpabbmcaaDoorLaid
import Derived.Test.YtmehgkkpabbmcaaDoorFnLawT
namespace Go.Proofs.YtmehgkkpabbmcaaDoor
open Go Go.ChangeShapes Go.WideShapes Go.ChangeAt Go.RowKit Go.WideElems

set_option maxRecDepth 100000 in
theorem shorter_lifted (os : Os) (started : os.Started) (H : Type) (enc : TypeId × Value → H) :
    ReturnsInHanded {} Tryd.checked os 9 .any (fun w args => (Rows.sketchShorterSpec.pre enc Tryd.prog Tryd.f9 [] false w args ∧ laidMetH Tryd.prog laid3 w) ∧ sizedMet enc Tryd.prog Tryd.f9 (OpenSpec.ofChange Rows.sketchShorterSpec) false w args)
      (Rows.sketchShorterSpec.post enc Tryd.prog Tryd.f9 false true false false) := by
  refine law_lifted (C := Tryd.checked) (X := fun w _ => laidMetH Tryd.prog laid3 w) (tb := 4) #[.slice none 0 0, .int .u8 0, .int .u8 0] 8 (World.doorLaid Tryd.prog 400 os) (fun _ _ _ hh h => h.of_heap hh) own started (by kernel_rfl) Tryd.func9 laidOut (by kernel_rfl) rfl Tryd.underlying4 rfl (fun ds hd => ?_) rfl
    (World.shaped_of_RefB (by kernel_rfl) (by kernel_rfl)) (by kernel_rfl) (by kernel_rfl) (by kernel_rfl) (door_met os _) ?_
  · rw [Tryd.params9] at hd
    match ds, hd with
    | [d0, d1, d2], _ => rfl
  · intro W base args ds hin hL
    rw [Tryd.params9] at hin
    obtain ⟨v0, d0, vs0, ds0, rfl, rfl, i0, hin⟩ := hin.cons
    obtain ⟨v1, d1, vs1, ds1, rfl, rfl, i1, hin⟩ := hin.cons
    obtain ⟨v2, d2, vs2, ds2, rfl, rfl, i2, hin⟩ := hin.cons
    obtain rfl := hin.nil
    obtain ⟨x0, arr0, len0, all0⟩ := i0.strs (by_ := 16) Tryd.underlying22 Tryd.underlying9 (by kernel_rfl) (by kernel_rfl)
    obtain ⟨n1, rfl, lo1, hi1⟩ := i1.int Tryd.underlying5
    replace lo1 : (0 : Int) ≤ n1 := lo1
    replace hi1 : n1 ≤ (255 : Int) := hi1
    obtain ⟨n2, rfl, lo2, hi2⟩ := i2.int Tryd.underlying5
    replace lo2 : (0 : Int) ≤ n2 := lo2
    replace hi2 : n2 ≤ (255 : Int) := hi2
    exact shorter_spec x0 _ n1 n2 W.heap arr0 (by omega) lo1 hi1 lo2 hi2 (tab_of_laid hL)

theorem shorter_holds : Rows.SketchShorterSaid :=
  OpenClaim.holds_of_wide 9 Tryd.f9 rfl rfl rfl rfl rfl rfl rfl ⟨rfl, rfl, rfl, rfl, rfl⟩ rfl rfl rfl rfl rfl (by kernel_rfl) Tryd.func9 (by kernel_rfl)
    (of_decide_eq_true (by kernel_rfl)) (by unfold Func.isWrapper; first | (rw [if_pos (by decide +kernel)]; kernel_rfl) | (rw [if_neg (by decide +kernel)]; exact ⟨rfl, rfl⟩))
    (fun os started H enc _ => shorter_lifted os started H enc)

theorem shorter_card : Rows.SketchShorterCardSaid :=
  Claim7.holds_tied_plain_at .later [] [.data, .data, .data] true _ false
    shorter_holds (fun _ h => by cases h) (by kernel_rfl) (fun _ h => by cases h) sketchShorter_row_tie rfl ⟨rfl, rfl⟩ (by kernel_rfl) rfl
    (fun f fn hf hfn => by
      obtain rfl : f = 9 := Option.some.inj ((show Tryd.prog.funcNamed Rows.sketchShorterRow.func = some 9 by kernel_rfl).symm.trans hf) |>.symm
      obtain rfl : fn = Tryd.f9 := (Option.some.inj (Tryd.func9.symm.trans hfn)).symm
      exact ⟨by kernel_rfl, fun j t ht => by
        rw [Tryd.params9] at ht
        have hm : t ∈ [22, 5, 5] := by simpa using Array.mem_of_getElem? ht
        have hall : ([22, 5, 5].all fun u => !Tryd.prog.wantsStandIn u) = true := by kernel_rfl
        exact (show Tryd.prog.wantsStandIn t = false by simpa using List.all_eq_true.1 hall t hm)⟩)
    (by kernel_rfl)

end Go.Proofs.YtmehgkkpabbmcaaDoor
