/-
  Get of the reference of chapter 45.
-/
import Derived.Test.YtihnelncimkegaaDoorStructs
import Derived.Test.YtihnelncimkegaaDoorFnGet
namespace Go.Proofs.YtihnelncimkegaaDoor
open Go

def valueR (l : List UInt8) : Int := if unbe l ≤ 4000000000 then unbe l else -1

theorem value_spec (l : List UInt8) (h : Heap) (hl : l.length ≤ 1000) :
    SpecR Tryd.prog 27 [.string ⟨⟨l⟩⟩] h fun r h' => r = .int .i64 (valueR l) ∧ Own h [] h' := by
  refine Spec.enter Tryd.func27 rfl Tryd.ntmps27 (by kernel_rfl) ?_
  refine LoopVC.intro [2, 3, 4, 5, 6, 7, 8, 9, 10, 11, 12, 13, 14, 15, 16, 17, 18, 19] [3, 4] (fun vs h1 => ∃ (i : Nat), i ≤ l.length ∧ vs = [.int .i64 (unbe (l.take i) : Nat), .int .i64 i] ∧ unbe (l.take i) ≤ 4000000000 ∧ h1 = h) (fun vs _ => match vs with | [_, .int _ i] => l.length - i.toNat | _ => 0) ?_ ?_
  · exact ⟨0, by omega, rfl, by rw [List.take_zero]; decide, rfl⟩
  · rintro vs junk h1 ⟨i, hi, rfl, hn, rfl⟩
    by_cases hlt : i < l.length
    · obtain ⟨c, hc⟩ := getx hlt
      have hc8 := u8_lt c
      have sn := unbe_take l i c hc
      have hm := unbe_le l (i + 1)
      generalize unbe (l.take i) = x at *
      by_cases hx : x * 256 + c.toNat ≤ 4000000000
      · refine StillVC.run (StillVC.lenS rfl str9 ?_)
        refine Br.dec (fun c21 => ?_) (fun hc => absurd (by omega) hc)
        refine Ar.i64 (by omega) (by omega) ?_
        refine StillVC.run (StillVC.strIdx rfl rfl str9 (by omega) (by assumption) ?_)
        refine StillVC.run (StillVC.convI rfl int5 int3 ?_)
        refine Ar.i64 (by omega) (by omega) ?_
        refine Ar.i64 (by omega) (by omega) ?_
        refine Br.dec (fun hc => absurd hc (by omega)) (fun c24 => ?_)
        refine Ar.i64 (by omega) (by omega) ?_
        refine ⟨rfl, ?_⟩
        exact ⟨⟨i + 1, by omega, by rw [sn]; simp, by omega, rfl⟩, by simp; omega⟩
      · refine StillVC.run (StillVC.lenS rfl str9 ?_)
        refine Br.dec (fun c41 => ?_) (fun hc => absurd (by omega) hc)
        refine Ar.i64 (by omega) (by omega) ?_
        refine StillVC.run (StillVC.strIdx rfl rfl str9 (by omega) (by assumption) ?_)
        refine StillVC.run (StillVC.convI rfl int5 int3 ?_)
        refine Ar.i64 (by omega) (by omega) ?_
        refine Ar.i64 (by omega) (by omega) ?_
        refine Br.dec (fun c44 => ?_) (fun hc => absurd (by omega) hc)
        refine RetVC.one rfl ?_
        refine ⟨?_, .refl _⟩
        unfold valueR
        rw [if_neg (by omega)]
    · obtain rfl : i = l.length := by omega
      rw [List.take_length] at hn ⊢
      refine StillVC.run (StillVC.lenS rfl str9 ?_)
      refine Br.dec (fun hc => absurd hc (by omega)) (fun c51 => ?_)
      refine RetVC.one rfl ?_
      refine ⟨?_, .refl _⟩
      unfold valueR
      rw [if_pos hn]

set_option maxRecDepth 100000 in
theorem refGet_spec (e p : Int) (l : List UInt8) (h : Heap) (hl : l.length ≤ 140737488351232) :
    SpecR Tryd.prog 14 [.int .i64 e, .int .i64 p, .string ⟨⟨l⟩⟩] h fun r h' => r = .tuple ⟨[.string ⟨⟨(getR e p l).1⟩⟩, .int .i64 (getR e p l).2]⟩ ∧ Own h [] h' := by
  refine Spec.enter Tryd.func14 rfl Tryd.ntmps14 (by kernel_rfl) ?_
  have o0 := Own.refl h
  refine CallVC.ret (refPlaced_spec e p h) ?_
  rintro _ h1 ⟨rfl, oc⟩
  have o1 := o0.ext' oc
  clear o0 oc
  cases hp : placedB e p with
  | false =>
    refine Br.tt ?_
    refine RetVC.two rfl ?_
    exact ⟨by simp [getR, hp], o1⟩
  | true =>
  by_cases h64 : l.length = 64
  · have k1 : (e8 l).length ≤ 1000 := by simp [e8]; omega
    have k2 : (p4 l).length ≤ 1000 := by simp [p4]; omega
    have k3 : (n4 l).length ≤ 1000 := by simp [n4]; omega
    refine Br.ff ?_
    refine StillVC.run (StillVC.lenS rfl str9 ?_)
    refine Br.ndec (fun hc => absurd (by first | omega | assumption | decide | exact rfl) hc) (fun c31 => ?_)
    refine StillVC.run (StillVC.sliceS str9 rfl rfl ⟨_, rfl⟩ (by omega) (by omega) (by omega) ?_)
    refine CallVC.ret (value_spec (e8 l) _ k1) ?_
    rintro _ h2 ⟨rfl, oc⟩
    have o2 := o1.ext' oc
    refine StillVC.run (StillVC.sliceS str9 rfl ⟨_, rfl⟩ ⟨_, rfl⟩ (by omega) (by omega) (by omega) ?_)
    refine CallVC.ret (value_spec (p4 l) _ k2) ?_
    rintro _ h3 ⟨rfl, oc⟩
    have o3 := o2.ext' oc
    refine StillVC.run (StillVC.sliceS str9 rfl ⟨_, rfl⟩ ⟨_, rfl⟩ (by omega) (by omega) (by omega) ?_)
    refine CallVC.ret (value_spec (n4 l) _ k3) ?_
    rintro _ h4 ⟨rfl, oc⟩
    have o4 := o3.ext' oc
    clear o1 o2 o3 oc
    by_cases hn : unbe (n4 l) ≤ 40
    · have hv : valueR (n4 l) = unbe (n4 l) := by unfold valueR; rw [if_pos (by omega)]
      rw [hv]
      have hbl : (bodyOf l).length ≤ 140737488351232 := by unfold bodyOf; simp; omega
      refine Br.dec (fun hc => absurd hc (by omega)) (fun c60 => ?_)
      refine Br.dec (fun hc => absurd hc (by omega)) (fun c61 => ?_)
      refine Ar.i64 (by omega) (by omega) ?_
      refine StillVC.run (StillVC.sliceS str9 rfl ⟨_, rfl⟩ ⟨_, rfl⟩ (by omega) (by omega) (by omega) ?_)
      refine CallVC.ret (refPut_spec (valueR (e8 l)) (valueR (p4 l)) (bodyOf l) _ hbl) ?_
      rintro _ h5 ⟨rfl, oc⟩
      have o5 := o4.ext' oc
      clear o4 oc
      by_cases hput : putR (unbe (e8 l)) (unbe (p4 l)) (bodyOf l) = (l, 0)
      · have hk : okS l = true := by simp [okS, h64, hn, hput]
        have hpl := placedB_spec (putR_ok hput).1
        have v1 : valueR (e8 l) = unbe (e8 l) := by unfold valueR; rw [if_pos (by omega)]
        have v2 : valueR (p4 l) = unbe (p4 l) := by unfold valueR; rw [if_pos (by omega)]
        rw [v1, v2, hput]
        by_cases he : (unbe (e8 l) : Int) = e
        · by_cases hpp : (unbe (p4 l) : Int) = p
          · refine Br.ndec (fun hc => absurd (by first | omega | assumption | decide | exact rfl) hc) (fun c90 => ?_)
            refine Br.ndec (fun hc => absurd (by first | omega | assumption | decide | exact rfl) hc) (fun c91 => ?_)
            refine Br.ndec (fun hc => absurd (by first | omega | assumption | decide | exact rfl) hc) (fun c92 => ?_)
            refine Br.ndec (fun hc => absurd (by first | omega | assumption | decide | exact rfl) hc) (fun c93 => ?_)
            refine RetVC.two rfl ?_
            refine ⟨?_, o5⟩
            simp only [getR, hp, hk, he, hpp, if_true, and_self]; rfl
          · refine Br.ndec (fun hc => absurd (by first | omega | assumption | decide | exact rfl) hc) (fun c100 => ?_)
            refine Br.ndec (fun hc => absurd (by first | omega | assumption | decide | exact rfl) hc) (fun c101 => ?_)
            refine Br.ndec (fun hc => absurd (by first | omega | assumption | decide | exact rfl) hc) (fun c102 => ?_)
            refine Br.ndec (fun c103 => ?_) (fun hc => absurd hc (by first | omega | assumption | decide | exact rfl))
            refine RetVC.two rfl ?_
            exact ⟨by simp [getR, hp, hk, hpp], o5⟩
        · refine Br.ndec (fun hc => absurd (by first | omega | assumption | decide | exact rfl) hc) (fun c110 => ?_)
          refine Br.ndec (fun hc => absurd (by first | omega | assumption | decide | exact rfl) hc) (fun c111 => ?_)
          refine Br.ndec (fun c112 => ?_) (fun hc => absurd hc (by first | omega | assumption | decide | exact rfl))
          refine Br.tt ?_
          refine RetVC.two rfl ?_
          exact ⟨by simp [getR, hp, hk, he], o5⟩
      · have hk : okS l = false := by simp [okS, hput]
        have hbad : ¬ putR (valueR (e8 l)) (valueR (p4 l)) (bodyOf l) = (l, 0) := by
          intro hq
          have hpl := placedB_spec (putR_ok hq).1
          have v1 : valueR (e8 l) = unbe (e8 l) := by
            unfold valueR at hpl ⊢; split at hpl <;> first | rfl | omega
          have v2 : valueR (p4 l) = unbe (p4 l) := by
            unfold valueR at hpl ⊢
            by_cases hc : unbe (p4 l) ≤ 4000000000
            · rw [if_pos hc]
            · rw [if_neg hc] at hpl; omega
          rw [v1, v2] at hq
          exact hput hq
        generalize putR (valueR (e8 l)) (valueR (p4 l)) (bodyOf l) = R at *
        obtain ⟨w, er⟩ := R
        by_cases her : er = 0
        · subst her
          have hw : ¬ w = l := fun e => hbad (by rw [e])
          refine Br.ndec (fun hc => absurd (by first | omega | assumption | decide | exact rfl) hc) (fun c120 => ?_)
          refine Br.ndec (fun c121 => ?_) (fun hc => absurd hc (by first | omega | assumption | decide | exact rfl))
          refine RetVC.two rfl ?_
          exact ⟨by simp [getR, hp, hk], o5⟩
        · refine Br.ndec (fun c130 => ?_) (fun hc => absurd hc (by first | omega | assumption | decide | exact rfl))
          refine Br.tt ?_
          refine RetVC.two rfl ?_
          exact ⟨by simp [getR, hp, hk], o5⟩
    · have hv : valueR (n4 l) < 0 ∨ 40 < valueR (n4 l) := by unfold valueR; split <;> omega
      by_cases hv0 : valueR (n4 l) < 0
      · refine Br.dec (fun c70 => ?_) (fun hc => absurd (by omega) hc)
        refine Br.tt ?_
        refine RetVC.two rfl ?_
        exact ⟨by simp [getR, hp, okS, hn], o4⟩
      · refine Br.dec (fun hc => absurd hc (by omega)) (fun c80 => ?_)
        refine Br.dec (fun c81 => ?_) (fun hc => absurd (by omega) hc)
        refine RetVC.two rfl ?_
        exact ⟨by simp [getR, hp, okS, hn], o4⟩
  · refine Br.ff ?_
    refine StillVC.run (StillVC.lenS rfl str9 ?_)
    refine Br.ndec (fun c41 => ?_) (fun hc => absurd hc (by first | omega | assumption | decide | exact rfl))
    refine RetVC.two rfl ?_
    exact ⟨by simp [getR, hp, okS, h64], o1⟩

end Go.Proofs.YtihnelncimkegaaDoor
