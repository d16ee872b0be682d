/-
  PROVED: the law LogDamaged returns true for every input, and leaves its arguments as they were; on condition that the library's listed tables hold what the program's text lays in them (the card ties them to it).
-/
import Derived.Test.YtfjajkgfgigodaaGreatDoorCards
import Derived.Test.YtfjajkgfgigodaaGreatDoorLaw4
import Derived.Test.YtfjajkgfgigodaaGreatDoorLaid
import Derived.Test.YtfjajkgfgigodaaGreatDoorMDa
namespace Go.Proofs.YtfjajkgfgigodaaGreatDoor
open Go Go.ChangeShapes Go.WideShapes Go.ChangeAt Go.RowKit Go.WideElems

set_option maxRecDepth 100000 in
theorem damaged_lifted (os : Os) (started : os.Started) (H : Type) (enc : TypeId × Value → H) :
    ReturnsInHanded {} Tryz.checked os 4 .any (fun w args => (Rows.logDamagedSpec.pre enc Tryz.prog Tryz.f4 [] false w args ∧ laidMetH Tryz.prog laid3 w) ∧ sizedMet enc Tryz.prog Tryz.f4 (OpenSpec.ofChange Rows.logDamagedSpec) false w args)
      (Rows.logDamagedSpec.post enc Tryz.prog Tryz.f4 false true false false) := by
  refine law_lifted (C := Tryz.checked) (X := fun w _ => laidMetH Tryz.prog laid3 w) (tb := 4) #[.int .i64 0, .slice none 0 0, .int .u8 0, .int .u8 0, .int .u8 0, .bool false] 8 (World.doorLaid Tryz.prog 400 os) (fun _ _ _ hh h => h.of_heap hh) own started (by kernel_rfl) Tryz.func4 laidOut (by kernel_rfl) rfl Tryz.underlying4 rfl (fun ds hd => ?_) rfl
    (World.shaped_of_RefB (by kernel_rfl) (by kernel_rfl)) (by kernel_rfl) (by kernel_rfl) (by kernel_rfl) (door_met os _) ?_
  · rw [Tryz.params4] at hd
    match ds, hd with
    | [d0, d1, d2, d3, d4, d5], _ => rfl
  · intro W base args ds hin hL
    rw [Tryz.params4] at hin
    obtain ⟨v0, d0, vs0, ds0, rfl, rfl, i0, hin⟩ := hin.cons
    obtain ⟨v1, d1, vs1, ds1, rfl, rfl, i1, hin⟩ := hin.cons
    obtain ⟨v2, d2, vs2, ds2, rfl, rfl, i2, hin⟩ := hin.cons
    obtain ⟨v3, d3, vs3, ds3, rfl, rfl, i3, hin⟩ := hin.cons
    obtain ⟨v4, d4, vs4, ds4, rfl, rfl, i4, hin⟩ := hin.cons
    obtain ⟨v5, d5, vs5, ds5, rfl, rfl, i5, hin⟩ := hin.cons
    obtain rfl := hin.nil
    obtain ⟨n0, rfl, lo0, hi0⟩ := i0.int Tryz.underlying3
    replace lo0 : (-9223372036854775808 : Int) ≤ n0 := lo0
    replace hi0 : n0 ≤ (9223372036854775807 : Int) := hi0
    obtain ⟨x1, arr1⟩ := i1.ops Tryz.underlying35 Tryz.underlying43 (by kernel_rfl) (by kernel_rfl) Tryz.underlying5 Tryz.underlying9 Tryz.underlying22 Tryz.underlying9 (by kernel_rfl) Tryz.underlying3 Tryz.underlying3 Tryz.underlying3
    obtain ⟨n2, rfl, lo2, hi2⟩ := i2.int Tryz.underlying5
    replace lo2 : (0 : Int) ≤ n2 := lo2
    replace hi2 : n2 ≤ (255 : Int) := hi2
    obtain ⟨n3, rfl, lo3, hi3⟩ := i3.int Tryz.underlying5
    replace lo3 : (0 : Int) ≤ n3 := lo3
    replace hi3 : n3 ≤ (255 : Int) := hi3
    obtain ⟨n4, rfl, lo4, hi4⟩ := i4.int Tryz.underlying5
    replace lo4 : (0 : Int) ≤ n4 := lo4
    replace hi4 : n4 ≤ (255 : Int) := hi4
    obtain ⟨b5, rfl⟩ := i5.bool Tryz.underlying4
    exact damaged_law n0 n2 n3 n4 b5 x1 _ _ lo2 hi2 lo3 hi3 lo4 hi4 (tab_of_laid hL) arr1

theorem damaged_holds : Rows.LogDamagedSaid :=
  OpenClaim.holds_of_wide 4 Tryz.f4 rfl rfl rfl rfl rfl rfl rfl ⟨rfl, rfl, rfl, rfl, rfl⟩ rfl rfl rfl rfl rfl (by kernel_rfl) Tryz.func4 (by kernel_rfl)
    (of_decide_eq_true (by kernel_rfl)) (by unfold Func.isWrapper; first | (rw [if_pos (by decide +kernel)]; kernel_rfl) | (rw [if_neg (by decide +kernel)]; exact ⟨rfl, rfl⟩))
    (fun os started H enc _ => damaged_lifted os started H enc)

theorem damaged_card : Rows.LogDamagedCardSaid :=
  Claim7.holds_tied_plain_at .later [] [.data, .data, .data, .sentinel, .sentinel] true _ true
    damaged_holds (fun _ h => by cases h) (by kernel_rfl) (fun _ h => by cases h) logDamaged_row_tie rfl ⟨rfl, rfl⟩ (by kernel_rfl) rfl
    (fun f fn hf hfn => by
      obtain rfl : f = 4 := Option.some.inj ((show Tryz.prog.funcNamed Rows.logDamagedRow.func = some 4 by kernel_rfl).symm.trans hf) |>.symm
      obtain rfl : fn = Tryz.f4 := (Option.some.inj (Tryz.func4.symm.trans hfn)).symm
      exact ⟨by kernel_rfl, fun j t ht => by
        rw [Tryz.params4] at ht
        have hm : t ∈ [3, 35, 5, 5, 5, 4] := by simpa using Array.mem_of_getElem? ht
        have hall : ([3, 35, 5, 5, 5, 4].all fun u => !Tryz.prog.wantsStandIn u) = true := by kernel_rfl
        exact (show Tryz.prog.wantsStandIn t = false by simpa using List.all_eq_true.1 hall t hm)⟩)
    (by kernel_rfl)

end Go.Proofs.YtfjajkgfgigodaaGreatDoor
