/-
  PROVED: the law LogMatchesReference returns true for every input, and leaves its arguments as they were; on condition that the library's listed tables hold what the program's text lays in them (the card ties them to it).
-/
import Derived.Test.YtfjajkgfgigodaaGreatDoorCards
import Derived.Test.YtfjajkgfgigodaaGreatDoorLaw4
import Derived.Test.YtfjajkgfgigodaaGreatDoorLaid
import Derived.Test.YtfjajkgfgigodaaGreatDoorMJm
namespace Go.Proofs.YtfjajkgfgigodaaGreatDoor
open Go Go.ChangeShapes Go.WideShapes Go.ChangeAt Go.RowKit Go.WideElems

set_option maxRecDepth 100000 in
theorem matches_lifted (os : Os) (started : os.Started) (H : Type) (enc : TypeId × Value → H) :
    ReturnsInHanded {} Tryz.checked os 10 .any (fun w args => (Rows.logMatchesReferenceSpec.pre enc Tryz.prog Tryz.f10 [] false w args ∧ laidMetH Tryz.prog laid3 w) ∧ sizedMet enc Tryz.prog Tryz.f10 (OpenSpec.ofChange Rows.logMatchesReferenceSpec) false w args)
      (Rows.logMatchesReferenceSpec.post enc Tryz.prog Tryz.f10 false true false false) := by
  refine law_lifted (C := Tryz.checked) (X := fun w _ => laidMetH Tryz.prog laid3 w) (tb := 4) #[.int .i64 0, .slice none 0 0] 8 (World.doorLaid Tryz.prog 400 os) (fun _ _ _ hh h => h.of_heap hh) own started (by kernel_rfl) Tryz.func10 laidOut (by kernel_rfl) rfl Tryz.underlying4 rfl (fun ds hd => ?_) rfl
    (World.shaped_of_RefB (by kernel_rfl) (by kernel_rfl)) (by kernel_rfl) (by kernel_rfl) (by kernel_rfl) (door_met os _) ?_
  · rw [Tryz.params10] at hd
    match ds, hd with
    | [d0, d1], _ => rfl
  · intro W base args ds hin hL
    rw [Tryz.params10] at hin
    obtain ⟨v0, d0, vs0, ds0, rfl, rfl, i0, hin⟩ := hin.cons
    obtain ⟨v1, d1, vs1, ds1, rfl, rfl, i1, hin⟩ := hin.cons
    obtain rfl := hin.nil
    obtain ⟨n0, rfl, lo0, hi0⟩ := i0.int Tryz.underlying3
    replace lo0 : (-9223372036854775808 : Int) ≤ n0 := lo0
    replace hi0 : n0 ≤ (9223372036854775807 : Int) := hi0
    obtain ⟨x1, arr1⟩ := i1.ops Tryz.underlying35 Tryz.underlying43 (by kernel_rfl) (by kernel_rfl) Tryz.underlying5 Tryz.underlying9 Tryz.underlying22 Tryz.underlying9 (by kernel_rfl) Tryz.underlying3 Tryz.underlying3 Tryz.underlying3
    exact matches_law n0 x1 _ _ (tab_of_laid hL) arr1

theorem matches_holds : Rows.LogMatchesReferenceSaid :=
  OpenClaim.holds_of_wide 10 Tryz.f10 rfl rfl rfl rfl rfl rfl rfl ⟨rfl, rfl, rfl, rfl, rfl⟩ rfl rfl rfl rfl rfl (by kernel_rfl) Tryz.func10 (by kernel_rfl)
    (of_decide_eq_true (by kernel_rfl)) (by unfold Func.isWrapper; first | (rw [if_pos (by decide +kernel)]; kernel_rfl) | (rw [if_neg (by decide +kernel)]; exact ⟨rfl, rfl⟩))
    (fun os started H enc _ => matches_lifted os started H enc)

theorem matches_card : Rows.LogMatchesReferenceCardSaid :=
  Claim7.holds_tied_plain_at .later [] [.data, .data, .data, .sentinel, .sentinel] true _ true
    matches_holds (fun _ h => by cases h) (by kernel_rfl) (fun _ h => by cases h) logMatchesReference_row_tie rfl ⟨rfl, rfl⟩ (by kernel_rfl) rfl
    (fun f fn hf hfn => by
      obtain rfl : f = 10 := Option.some.inj ((show Tryz.prog.funcNamed Rows.logMatchesReferenceRow.func = some 10 by kernel_rfl).symm.trans hf) |>.symm
      obtain rfl : fn = Tryz.f10 := (Option.some.inj (Tryz.func10.symm.trans hfn)).symm
      exact ⟨by kernel_rfl, fun j t ht => by
        rw [Tryz.params10] at ht
        have hm : t ∈ [3, 35] := by simpa using Array.mem_of_getElem? ht
        have hall : ([3, 35].all fun u => !Tryz.prog.wantsStandIn u) = true := by kernel_rfl
        exact (show Tryz.prog.wantsStandIn t = false by simpa using List.all_eq_true.1 hall t hm)⟩)
    (by kernel_rfl)

end Go.Proofs.YtfjajkgfgigodaaGreatDoor
