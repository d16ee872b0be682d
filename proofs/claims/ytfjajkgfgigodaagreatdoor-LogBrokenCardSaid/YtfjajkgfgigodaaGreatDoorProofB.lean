/-
  PROVED: the law LogBroken returns true for every input, and leaves its arguments as they were; on condition that the library's listed tables hold what the program's text lays in them (the card ties them to it).
-/
import Derived.Test.YtfjajkgfgigodaaGreatDoorCards
import Derived.Test.YtfjajkgfgigodaaGreatDoorLaw4
import Derived.Test.YtfjajkgfgigodaaGreatDoorLaid
import Derived.Test.YtfjajkgfgigodaaGreatDoorMBr
namespace Go.Proofs.YtfjajkgfgigodaaGreatDoor
open Go Go.ChangeShapes Go.WideShapes Go.ChangeAt Go.RowKit Go.WideElems

set_option maxRecDepth 100000 in
theorem broken_lifted (os : Os) (started : os.Started) (H : Type) (enc : TypeId × Value → H) :
    ReturnsInHanded {} Tryz.checked os 8 .any (fun w args => (Rows.logBrokenSpec.pre enc Tryz.prog Tryz.f8 [] false w args ∧ laidMetH Tryz.prog laid3 w) ∧ sizedMet enc Tryz.prog Tryz.f8 (OpenSpec.ofChange Rows.logBrokenSpec) false w args)
      (Rows.logBrokenSpec.post enc Tryz.prog Tryz.f8 false true false false) := by
  refine law_lifted (C := Tryz.checked) (X := fun w _ => laidMetH Tryz.prog laid3 w) (tb := 4) #[.int .i64 0, .slice none 0 0, .int .i64 0, .int .i64 0] 8 (World.doorLaid Tryz.prog 400 os) (fun _ _ _ hh h => h.of_heap hh) own started (by kernel_rfl) Tryz.func8 laidOut (by kernel_rfl) rfl Tryz.underlying4 rfl (fun ds hd => ?_) rfl
    (World.shaped_of_RefB (by kernel_rfl) (by kernel_rfl)) (by kernel_rfl) (by kernel_rfl) (by kernel_rfl) (door_met os _) ?_
  · rw [Tryz.params8] at hd
    match ds, hd with
    | [d0, d1, d2, d3], _ => rfl
  · intro W base args ds hin hL
    rw [Tryz.params8] at hin
    obtain ⟨v0, d0, vs0, ds0, rfl, rfl, i0, hin⟩ := hin.cons
    obtain ⟨v1, d1, vs1, ds1, rfl, rfl, i1, hin⟩ := hin.cons
    obtain ⟨v2, d2, vs2, ds2, rfl, rfl, i2, hin⟩ := hin.cons
    obtain ⟨v3, d3, vs3, ds3, rfl, rfl, i3, hin⟩ := hin.cons
    obtain rfl := hin.nil
    obtain ⟨n0, rfl, lo0, hi0⟩ := i0.int Tryz.underlying3
    replace lo0 : (-9223372036854775808 : Int) ≤ n0 := lo0
    replace hi0 : n0 ≤ (9223372036854775807 : Int) := hi0
    obtain ⟨x1, arr1⟩ := i1.ops Tryz.underlying35 Tryz.underlying43 (by kernel_rfl) (by kernel_rfl) Tryz.underlying5 Tryz.underlying9 Tryz.underlying22 Tryz.underlying9 (by kernel_rfl) Tryz.underlying3 Tryz.underlying3 Tryz.underlying3
    obtain ⟨n2, rfl, lo2, hi2⟩ := i2.int Tryz.underlying3
    replace lo2 : (-9223372036854775808 : Int) ≤ n2 := lo2
    replace hi2 : n2 ≤ (9223372036854775807 : Int) := hi2
    obtain ⟨n3, rfl, lo3, hi3⟩ := i3.int Tryz.underlying3
    replace lo3 : (-9223372036854775808 : Int) ≤ n3 := lo3
    replace hi3 : n3 ≤ (9223372036854775807 : Int) := hi3
    exact broken_spec n0 n2 n3 x1 _ _ (tab_of_laid hL) arr1

theorem broken_holds : Rows.LogBrokenSaid :=
  OpenClaim.holds_of_wide 8 Tryz.f8 rfl rfl rfl rfl rfl rfl rfl ⟨rfl, rfl, rfl, rfl, rfl⟩ rfl rfl rfl rfl rfl (by kernel_rfl) Tryz.func8 (by kernel_rfl)
    (of_decide_eq_true (by kernel_rfl)) (by unfold Func.isWrapper; first | (rw [if_pos (by decide +kernel)]; kernel_rfl) | (rw [if_neg (by decide +kernel)]; exact ⟨rfl, rfl⟩))
    (fun os started H enc _ => broken_lifted os started H enc)

theorem broken_card : Rows.LogBrokenCardSaid :=
  Claim7.holds_tied_plain_at .later [] [.data, .data, .data, .sentinel, .sentinel] true _ true
    broken_holds (fun _ h => by cases h) (by kernel_rfl) (fun _ h => by cases h) logBroken_row_tie rfl ⟨rfl, rfl⟩ (by kernel_rfl) rfl
    (fun f fn hf hfn => by
      obtain rfl : f = 8 := Option.some.inj ((show Tryz.prog.funcNamed Rows.logBrokenRow.func = some 8 by kernel_rfl).symm.trans hf) |>.symm
      obtain rfl : fn = Tryz.f8 := (Option.some.inj (Tryz.func8.symm.trans hfn)).symm
      exact ⟨by kernel_rfl, fun j t ht => by
        rw [Tryz.params8] at ht
        have hm : t ∈ [3, 35, 3, 3] := by simpa using Array.mem_of_getElem? ht
        have hall : ([3, 35, 3, 3].all fun u => !Tryz.prog.wantsStandIn u) = true := by kernel_rfl
        exact (show Tryz.prog.wantsStandIn t = false by simpa using List.all_eq_true.1 hall t hm)⟩)
    (by kernel_rfl)

end Go.Proofs.YtfjajkgfgigodaaGreatDoor
