/-
  PROVED: the law ParserOperations returns true for every input, and leaves its arguments as they were; on condition that the library's listed tables hold what the program's text lays in them (the card ties them to it).
-/
import Derived.Test.YtnmfanjhepepbaaDoorCards
import Derived.Test.YtnmfanjhepepbaaDoorLaw
import Derived.Test.YtnmfanjhepepbaaDoorLaid
import Derived.Test.YtnmfanjhepepbaaDoorMOp
namespace Go.Proofs.YtnmfanjhepepbaaDoor
open Go Go.ChangeShapes Go.WideShapes Go.ChangeAt Go.RowKit Go.WideElems

set_option maxRecDepth 100000 in
theorem opslaw_lifted (os : Os) (started : os.Started) (H : Type) (enc : TypeId × Value → H) :
    ReturnsInHanded {} Tryd.checked os 5 .any (fun w args => (Rows.parserOperationsSpec.pre enc Tryd.prog Tryd.f5 [] false w args ∧ laidMetH Tryd.prog laid3 w) ∧ sizedMet enc Tryd.prog Tryd.f5 (OpenSpec.ofChange Rows.parserOperationsSpec) false w args)
      (Rows.parserOperationsSpec.post enc Tryd.prog Tryd.f5 false true false false) := by
  refine law_lifted (C := Tryd.checked) (X := fun w _ => laidMetH Tryd.prog laid3 w) (tb := 4) #[.string ⟨#[]⟩, .string ⟨#[]⟩] 8 (World.doorLaid Tryd.prog 400 os) (fun _ _ _ hh h => h.of_heap hh) own started (by kernel_rfl) Tryd.func5 laidOut (by kernel_rfl) rfl Tryd.underlying4 rfl (fun ds hd => ?_) rfl
    (World.shaped_of_RefB (by kernel_rfl) (by kernel_rfl)) (by kernel_rfl) (by kernel_rfl) (by kernel_rfl) (door_met os _) ?_
  · rw [Tryd.params5] at hd
    match ds, hd with
    | [d0, d1], _ => rfl
  · intro W base args ds hin hL
    rw [Tryd.params5] at hin
    obtain ⟨v0, d0, vs0, ds0, rfl, rfl, i0, hin⟩ := hin.cons
    obtain ⟨v1, d1, vs1, ds1, rfl, rfl, i1, hin⟩ := hin.cons
    obtain rfl := hin.nil
    obtain ⟨l0, rfl, z0⟩ := i0.string Tryd.underlying9
    obtain ⟨l1, rfl, z1⟩ := i1.string Tryd.underlying9
    exact opsLaw_spec l0 l1 _ (by omega) (by omega) (words_of_laid hL)

theorem opslaw_holds : Rows.ParserOperationsSaid :=
  OpenClaim.holds_of_wide 5 Tryd.f5 rfl rfl rfl rfl rfl rfl rfl ⟨rfl, rfl, rfl, rfl, rfl⟩ rfl rfl rfl rfl rfl (by kernel_rfl) Tryd.func5 (by kernel_rfl)
    (of_decide_eq_true (by kernel_rfl)) (by unfold Func.isWrapper; first | (rw [if_pos (by decide +kernel)]; kernel_rfl) | (rw [if_neg (by decide +kernel)]; exact ⟨rfl, rfl⟩))
    (fun os started H enc _ => opslaw_lifted os started H enc)

theorem opslaw_card : Rows.ParserOperationsCardSaid :=
  Claim7.holds_tied_plain_at .later [] [.data, .data, .data, .sentinel, .sentinel, .widerDeep] true _ true
    opslaw_holds (fun _ h => by cases h) (by kernel_rfl) (fun _ h => by cases h) parserOperations_row_tie rfl ⟨rfl, rfl⟩ (by kernel_rfl) rfl
    (fun f fn hf hfn => by
      obtain rfl : f = 5 := Option.some.inj ((show Tryd.prog.funcNamed Rows.parserOperationsRow.func = some 5 by kernel_rfl).symm.trans hf) |>.symm
      obtain rfl : fn = Tryd.f5 := (Option.some.inj (Tryd.func5.symm.trans hfn)).symm
      exact ⟨by kernel_rfl, fun j t ht => by
        rw [Tryd.params5] at ht
        have hm : t ∈ [9, 9] := by simpa using Array.mem_of_getElem? ht
        have hall : ([9, 9].all fun u => !Tryd.prog.wantsStandIn u) = true := by kernel_rfl
        exact (show Tryd.prog.wantsStandIn t = false by simpa using List.all_eq_true.1 hall t hm)⟩)
    (by kernel_rfl)

end Go.Proofs.YtnmfanjhepepbaaDoor
