/-
  PROVED: the law SealRot returns true for every input, and leaves its arguments as they were; on condition that the library's listed tables hold what the program's text lays in them (the card ties them to it).
-/
import Derived.Test.YtihnelncimkegaaDoorCards
import Derived.Test.YtihnelncimkegaaDoorLaw
import Derived.Test.YtihnelncimkegaaDoorLaid
import Derived.Test.YtihnelncimkegaaDoorFnSealR
namespace Go.Proofs.YtihnelncimkegaaDoor
open Go Go.ChangeShapes Go.WideShapes Go.ChangeAt Go.RowKit Go.WideElems

set_option maxRecDepth 100000 in
theorem rot_lifted (os : Os) (started : os.Started) (H : Type) (enc : TypeId × Value → H) :
    ReturnsInHanded {} Tryd.checked os 5 .any (fun w args => (Rows.sealRotSpec.pre enc Tryd.prog Tryd.f5 [] false w args ∧ laidMetH Tryd.prog laid3 w) ∧ sizedMet enc Tryd.prog Tryd.f5 (OpenSpec.ofChange Rows.sealRotSpec) false w args)
      (Rows.sealRotSpec.post enc Tryd.prog Tryd.f5 false true false false) := by
  refine law_lifted (C := Tryd.checked) (X := fun w _ => laidMetH Tryd.prog laid3 w) (tb := 4) #[.int .i64 0, .int .i64 0, .string ⟨#[]⟩, .int .u8 0, .int .u8 0, .int .u16 0, .int .u16 0] 8 (World.doorLaid Tryd.prog 400 os) (fun _ _ _ hh h => h.of_heap hh) own started (by kernel_rfl) Tryd.func5 laidOut (by kernel_rfl) rfl Tryd.underlying4 rfl (fun ds hd => ?_) rfl
    (World.shaped_of_RefB (by kernel_rfl) (by kernel_rfl)) (by kernel_rfl) (by kernel_rfl) (by kernel_rfl) (door_met os _) ?_
  · rw [Tryd.params5] at hd
    match ds, hd with
    | [d0, d1, d2, d3, d4, d5, d6], _ => rfl
  · intro W base args ds hin hL
    rw [Tryd.params5] at hin
    obtain ⟨v0, d0, vs0, ds0, rfl, rfl, i0, hin⟩ := hin.cons
    obtain ⟨v1, d1, vs1, ds1, rfl, rfl, i1, hin⟩ := hin.cons
    obtain ⟨v2, d2, vs2, ds2, rfl, rfl, i2, hin⟩ := hin.cons
    obtain ⟨v3, d3, vs3, ds3, rfl, rfl, i3, hin⟩ := hin.cons
    obtain ⟨v4, d4, vs4, ds4, rfl, rfl, i4, hin⟩ := hin.cons
    obtain ⟨v5, d5, vs5, ds5, rfl, rfl, i5, hin⟩ := hin.cons
    obtain ⟨v6, d6, vs6, ds6, rfl, rfl, i6, hin⟩ := hin.cons
    obtain rfl := hin.nil
    obtain ⟨n0, rfl, lo0, hi0⟩ := i0.int Tryd.underlying3
    replace lo0 : (-9223372036854775808 : Int) ≤ n0 := lo0
    replace hi0 : n0 ≤ (9223372036854775807 : Int) := hi0
    obtain ⟨n1, rfl, lo1, hi1⟩ := i1.int Tryd.underlying3
    replace lo1 : (-9223372036854775808 : Int) ≤ n1 := lo1
    replace hi1 : n1 ≤ (9223372036854775807 : Int) := hi1
    obtain ⟨l2, rfl, z2⟩ := i2.string Tryd.underlying9
    obtain ⟨n3, rfl, lo3, hi3⟩ := i3.int Tryd.underlying5
    replace lo3 : (0 : Int) ≤ n3 := lo3
    replace hi3 : n3 ≤ (255 : Int) := hi3
    obtain ⟨n4, rfl, lo4, hi4⟩ := i4.int Tryd.underlying5
    replace lo4 : (0 : Int) ≤ n4 := lo4
    replace hi4 : n4 ≤ (255 : Int) := hi4
    obtain ⟨n5, rfl, lo5, hi5⟩ := i5.int Tryd.underlying34
    replace lo5 : (0 : Int) ≤ n5 := lo5
    replace hi5 : n5 ≤ (65535 : Int) := hi5
    obtain ⟨n6, rfl, lo6, hi6⟩ := i6.int Tryd.underlying34
    replace lo6 : (0 : Int) ≤ n6 := lo6
    replace hi6 : n6 ≤ (65535 : Int) := hi6
    exact (by obtain ⟨c, rfl⟩ : ∃ c : UInt8, n4 = (c.toNat : Int) := ⟨UInt8.ofNat n4.toNat, by rw [UInt8.toNat_ofNat']; omega⟩; exact rot_spec n0 n1 l2 n3 c n5 n6 W.heap (by omega) lo3 hi3 lo5 hi5 lo6 hi6 (tab_of_laid hL))

theorem rot_holds : Rows.SealRotSaid :=
  OpenClaim.holds_of_wide 5 Tryd.f5 rfl rfl rfl rfl rfl rfl rfl ⟨rfl, rfl, rfl, rfl, rfl⟩ rfl rfl rfl rfl rfl (by kernel_rfl) Tryd.func5 (by kernel_rfl)
    (of_decide_eq_true (by kernel_rfl)) (by unfold Func.isWrapper; first | (rw [if_pos (by decide +kernel)]; kernel_rfl) | (rw [if_neg (by decide +kernel)]; exact ⟨rfl, rfl⟩))
    (fun os started H enc _ => rot_lifted os started H enc)

theorem rot_card : Rows.SealRotCardSaid :=
  Claim7.holds_tied_plain_at .later [] [.data, .data, .data] true _ false
    rot_holds (fun _ h => by cases h) (by kernel_rfl) (fun _ h => by cases h) sealRot_row_tie rfl ⟨rfl, rfl⟩ (by kernel_rfl) rfl
    (fun f fn hf hfn => by
      obtain rfl : f = 5 := Option.some.inj ((show Tryd.prog.funcNamed Rows.sealRotRow.func = some 5 by kernel_rfl).symm.trans hf) |>.symm
      obtain rfl : fn = Tryd.f5 := (Option.some.inj (Tryd.func5.symm.trans hfn)).symm
      exact ⟨by kernel_rfl, fun j t ht => by
        rw [Tryd.params5] at ht
        have hm : t ∈ [3, 3, 9, 5, 5, 34, 34] := by simpa using Array.mem_of_getElem? ht
        have hall : ([3, 3, 9, 5, 5, 34, 34].all fun u => !Tryd.prog.wantsStandIn u) = true := by kernel_rfl
        exact (show Tryd.prog.wantsStandIn t = false by simpa using List.all_eq_true.1 hall t hm)⟩)
    (by kernel_rfl)

end Go.Proofs.YtihnelncimkegaaDoor
