/-
  Lists of tokens that are compared.
-/
import Derived.Test.YtofbiladpmcjgaaGreatDoorStructs
import Derived.Test.YtofbiladpmcjgaaGreatDoorFnLexZ
namespace Go.Proofs.YtofbiladpmcjgaaGreatDoor
open Go

def Tok.key (t : Tok) : Int × List UInt8 × Int := (t.kind, t.text, t.num)

set_option maxHeartbeats 4000000 in
set_option maxRecDepth 100000 in
theorem alike_spec (a b : List Tok) (va vb : Value) (h : Heap) (hA : ArrN 4 h va a.length (a.flatMap tokC)) (hB : ArrN 4 h vb b.length (b.flatMap tokC)) (hl : a.length ≤ 1000000) :
    SpecR Tryz.prog 8 [va, vb] h fun r h' => r = .bool (decide (a.map Tok.key = b.map Tok.key)) ∧ Own h [] h' := by
  refine Spec.enter Tryz.func8 rfl Tryz.ntmps8 (by kernel_rfl) ?_
  have o0 := Own.refl h
  by_cases hlen : a.length = b.length
  · refine StillVC.run (StillVC.lenN hA sl23 ?_)
    refine StillVC.run (StillVC.lenN hB sl23 ?_)
    refine Br.ndec (fun hc => absurd (by first | omega | assumption | decide | exact rfl) hc) (fun c12 => ?_)
    refine LoopVC.intro [4, 5, 11, 12, 13, 14, 15, 16, 17, 18, 19, 20, 21, 22, 23, 24, 25, 26, 27, 28, 29, 30, 31, 32, 33, 34, 35, 36, 37, 38, 39, 40, 41, 42, 43, 44, 45, 46, 47, 48, 49, 50, 51, 52, 53] [5] (fun vs hh => ∃ (i : Nat), i ≤ a.length ∧ vs = [.int .i64 i] ∧ (a.take i).map Tok.key = (b.take i).map Tok.key ∧ Own h [] hh) (fun vs _ => match vs with | [.int _ i] => a.length - i.toNat | _ => 0) ?_ ?_
    · exact ⟨0, by omega, rfl, rfl, o0⟩
    · rintro vs junk hh ⟨i, hi, rfl, hE, oh⟩
      by_cases hlt : i < a.length
      · obtain ⟨x, hx⟩ := getx hlt
        obtain ⟨y, hy⟩ := getx (show i < b.length by omega)
        have no : x.key ≠ y.key → ¬ a.map Tok.key = b.map Tok.key := fun hne e => by
          have := congrArg (·[i]?) e
          simp only [List.getElem?_map, hx, hy, Option.map_some, Option.some.injEq] at this
          exact hne this
        refine StillVC.run (StillVC.lenN (hA.ext oh.ext) sl23 ?_)
        refine Br.dec (fun c21 => ?_) (fun hc => absurd (by omega) hc)
        refine DrawVC.intro [0, 1, 2, 3, 5, 6, 7, 8, 10, 11, 12, 13, 14, 15, 17, 18, 19, 20, 22, 23, 24, 25, 26, 27, 28, 30, 31, 32, 33, 35, 36] [4, 9, 16, 21, 29, 34] [] [0, 1, 2, 3, 4, 5, 6, 7, 8, 9, 10, 11, 12, 13, 14, 15, 16, 17, 18, 19, 20, 21, 22, 23, 24, 25, 26, 27, 28, 29, 30, 31, 32, 33, 34, 35, 36] mixed (by kernel_rfl) rfl (fun _ _ _ _ h => h) ?_
        refine StillVC.idxN sl23 ty35 (hA.ext oh.ext) rfl (by omega) (by omega) ?_
        refine StillVC.fieldAdr (hA.ext oh.ext) (by omega) st35 rfl rfl rfl ?_
        refine StillVC.loadFF (hA.ext oh.ext) ty3 (fun _ => rfl) rfl (by assumption) rfl ?_
        refine StillVC.idxN sl23 ty35 (hB.ext oh.ext) rfl (by omega) (by omega) ?_
        refine StillVC.fieldAdr (hB.ext oh.ext) (by omega) st35 rfl rfl rfl ?_
        refine StillVC.loadFF (hB.ext oh.ext) ty3 (fun _ => rfl) rfl (by assumption) rfl ?_
        refine Br.ndec (fun c28 => ?_) (fun c28 => ?_)
        refine Br.tt ?_
        refine RetVC.one rfl ?_
        rotate_left
        refine StillVC.idxN sl23 ty35 (hA.ext oh.ext) rfl (by omega) (by omega) ?_
        refine StillVC.fieldAdr (hA.ext oh.ext) (by omega) st35 rfl rfl rfl ?_
        refine StillVC.loadFF (hA.ext oh.ext) ty9 (fun _ => rfl) rfl (by assumption) rfl ?_
        refine StillVC.idxN sl23 ty35 (hB.ext oh.ext) rfl (by omega) (by omega) ?_
        refine StillVC.fieldAdr (hB.ext oh.ext) (by omega) st35 rfl rfl rfl ?_
        refine StillVC.loadFF (hB.ext oh.ext) ty9 (fun _ => rfl) rfl (by assumption) rfl ?_
        refine Br.ndec (fun c35 => ?_) (fun c35 => ?_)
        refine Br.tt ?_
        refine RetVC.one rfl ?_
        rotate_left
        refine StillVC.idxN sl23 ty35 (hA.ext oh.ext) rfl (by omega) (by omega) ?_
        refine StillVC.fieldAdr (hA.ext oh.ext) (by omega) st35 rfl rfl rfl ?_
        refine StillVC.loadFF (hA.ext oh.ext) ty3 (fun _ => rfl) rfl (by assumption) rfl ?_
        refine StillVC.idxN sl23 ty35 (hB.ext oh.ext) rfl (by omega) (by omega) ?_
        refine StillVC.fieldAdr (hB.ext oh.ext) (by omega) st35 rfl rfl rfl ?_
        refine StillVC.loadFF (hB.ext oh.ext) ty3 (fun _ => rfl) rfl (by assumption) rfl ?_
        refine Br.ndec (fun c42 => ?_) (fun c42 => ?_)
        refine RetVC.one rfl ?_
        rotate_left
        refine Ar.i64 (by omega) (by omega) ?_
        refine ⟨rfl, ?_⟩
        · refine ⟨⟨i + 1, by omega, rfl, ?_, oh⟩, by simp; omega⟩
          have hk : x.key = y.key := by simp only [Tok.key, c28, c35, c42]
          rw [List.take_add_one, List.take_add_one, hx, hy, List.map_append, List.map_append, hE]
          simp [hk]
        · exact ⟨congrArg Value.bool (decide_eq_false (no fun e => c28 (congrArg (·.1) e))).symm, oh⟩
        · exact ⟨congrArg Value.bool (decide_eq_false (no fun e => c35 (congrArg (·.2.1) e))).symm, oh⟩
        · exact ⟨congrArg Value.bool (decide_eq_false (no fun e => c42 (congrArg (·.2.2) e))).symm, oh⟩
      · have e1 : a.take i = a := List.take_of_length_le (by omega)
        have e2 : b.take i = b := List.take_of_length_le (by omega)
        rw [e1, e2] at hE
        refine StillVC.run (StillVC.lenN (hA.ext oh.ext) sl23 ?_)
        refine Br.dec (fun hc => absurd hc (by omega)) (fun c81 => ?_)
        refine RetVC.one rfl ?_
        exact ⟨by rw [decide_eq_true hE], oh⟩
  · refine StillVC.run (StillVC.lenN hA sl23 ?_)
    refine StillVC.run (StillVC.lenN hB sl23 ?_)
    refine Br.ndec (fun c92 => ?_) (fun hc => absurd hc (by first | omega | assumption | decide | exact rfl))
    refine RetVC.one rfl ?_
    refine ⟨congrArg Value.bool (decide_eq_false fun e => hlen ?_).symm, o0⟩
    have := congrArg List.length e
    simpa using this

end Go.Proofs.YtofbiladpmcjgaaGreatDoor
