/-
  PROVED: the law RatioMatchesReference returns true for every input, and leaves its arguments as they were; on condition that the library's listed tables hold what the program's text lays in them (the card ties them to it).
-/
import Derived.Test.YtemijanhigjmmaaDoorCards
import Derived.Test.YtemijanhigjmmaaDoorLaw2
import Derived.Test.YtemijanhigjmmaaDoorLaid
import Derived.Test.YtemijanhigjmmaaDoorFnRatM
namespace Go.Proofs.YtemijanhigjmmaaDoor
open Go Go.ChangeShapes Go.WideShapes Go.ChangeAt Go.RowKit Go.WideElems

set_option maxRecDepth 100000 in
theorem matches_lifted (os : Os) (started : os.Started) (H : Type) (enc : TypeId × Value → H) :
    ReturnsInHanded {} Tryd.checked os 7 .any (fun w args => (Rows.ratioMatchesReferenceSpec.pre enc Tryd.prog Tryd.f7 [] false w args ∧ laidMetH Tryd.prog laid5 w) ∧ sizedMet enc Tryd.prog Tryd.f7 (OpenSpec.ofChange Rows.ratioMatchesReferenceSpec) false w args)
      (Rows.ratioMatchesReferenceSpec.post enc Tryd.prog Tryd.f7 false true false false) := by
  refine law_liftedS (C := Tryd.checked) (X := fun w _ => laidMetH Tryd.prog laid5 w) (tb := 4) #[.agg #[.int .i64 0, .int .i64 0], .agg #[.int .i64 0, .int .i64 0], .agg #[.int .i64 0, .int .i64 0, .string ⟨#[]⟩]] 8 (World.doorLaid Tryd.prog 400 os) (fun _ _ _ hh h => h.of_heap hh) own started (by kernel_rfl) Tryd.func7 laidOut (by kernel_rfl) rfl Tryd.underlying4 rfl (fun ds hd => ?_) rfl
    (World.shaped_of_RefB (by kernel_rfl) (by kernel_rfl)) (by kernel_rfl) (by kernel_rfl) (by kernel_rfl) (door_met os _) ?_
  · rw [Tryd.params7] at hd
    match ds, hd with
    | [d0, d1, d2], _ => rfl
  · intro W base args ds hin hL hS
    rw [Tryd.params7] at hin
    obtain ⟨v0, d0, vs0, ds0, rfl, rfl, i0, hin⟩ := hin.cons
    obtain ⟨v1, d1, vs1, ds1, rfl, rfl, i1, hin⟩ := hin.cons
    obtain ⟨v2, d2, vs2, ds2, rfl, rfl, i2, hin⟩ := hin.cons
    obtain rfl := hin.nil
    obtain ⟨n0, m0, rfl, r0, q0⟩ := i0.pairZ Tryd.underlying24 (by kernel_rfl) (by kernel_rfl) Tryd.underlying3 Tryd.underlying3
    obtain ⟨n1, m1, rfl, r1, q1⟩ := i1.pairZ Tryd.underlying24 (by kernel_rfl) (by kernel_rfl) Tryd.underlying3 Tryd.underlying3
    obtain ⟨n2, m2, l2, rfl, r2, q2, z2⟩ := i2.rawZ Tryd.underlying41 (by kernel_rfl) (by kernel_rfl) Tryd.underlying3 Tryd.underlying3 Tryd.underlying9
    exact matches_spec (n0, m0) (n1, m1) n2 m2 l2 W.heap ⟨r0, q0⟩ ⟨r1, q1⟩ r2 q2 z2 (tab_of_laid hL) (vars_of_laid hL hS)

theorem matches_holds : Rows.RatioMatchesReferenceSaid :=
  OpenClaim.holds_of_wide 7 Tryd.f7 rfl rfl rfl rfl rfl rfl rfl ⟨rfl, rfl, rfl, rfl, rfl⟩ rfl rfl rfl rfl rfl (by kernel_rfl) Tryd.func7 (by kernel_rfl)
    (of_decide_eq_true (by kernel_rfl)) (by unfold Func.isWrapper; first | (rw [if_pos (by decide +kernel)]; kernel_rfl) | (rw [if_neg (by decide +kernel)]; exact ⟨rfl, rfl⟩))
    (fun os started H enc _ => matches_lifted os started H enc)

theorem matches_card : Rows.RatioMatchesReferenceCardSaid :=
  Claim7.holds_tied_plain_at .later [] [.data, .data, .data, .sentinel, .sentinel] true _ true
    matches_holds (fun _ h => by cases h) (by kernel_rfl) (fun _ h => by cases h) ratioMatchesReference_row_tie rfl ⟨rfl, rfl⟩ (by kernel_rfl) rfl
    (fun f fn hf hfn => by
      obtain rfl : f = 7 := Option.some.inj ((show Tryd.prog.funcNamed Rows.ratioMatchesReferenceRow.func = some 7 by kernel_rfl).symm.trans hf) |>.symm
      obtain rfl : fn = Tryd.f7 := (Option.some.inj (Tryd.func7.symm.trans hfn)).symm
      exact ⟨by kernel_rfl, fun j t ht => by
        rw [Tryd.params7] at ht
        have hm : t ∈ [24, 24, 41] := by simpa using Array.mem_of_getElem? ht
        have hall : ([24, 24, 41].all fun u => !Tryd.prog.wantsStandIn u) = true := by kernel_rfl
        exact (show Tryd.prog.wantsStandIn t = false by simpa using List.all_eq_true.1 hall t hm)⟩)
    (by kernel_rfl)

end Go.Proofs.YtemijanhigjmmaaDoor
