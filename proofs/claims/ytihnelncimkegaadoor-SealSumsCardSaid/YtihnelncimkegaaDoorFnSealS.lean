/-
  The statement SealSums of chapter 45, walked.
-/
import Derived.Test.YtihnelncimkegaaDoorStructs
import Derived.Test.YtihnelncimkegaaDoorFnSealHead
import Derived.Test.YtihnelncimkegaaDoorFnSealR
namespace Go.Proofs.YtihnelncimkegaaDoor
open Go

theorem diffs_take {a b : List UInt8} {i : Nat} {x y : UInt8} (hx : a[i]? = some x) (hy : b[i]? = some y) : diffs (a.take (i + 1)) (b.take (i + 1)) = diffs (a.take i) (b.take i) + if x = y then 0 else 1 := by
  obtain ⟨h1, e1⟩ := List.getElem?_eq_some_iff.1 hx
  obtain ⟨h2, e2⟩ := List.getElem?_eq_some_iff.1 hy
  rw [List.take_succ_eq_append_getElem h1, List.take_succ_eq_append_getElem h2, e1, e2, diffs_snoc _ _ (by simp; omega)]

set_option maxHeartbeats 1600000 in
set_option maxRecDepth 100000 in
theorem sums_spec (s t : List UInt8) (w : Int) (c : UInt8) (h : Heap) (hl : s.length ≤ 140737488351232) (hm : t.length ≤ 140737488351232) (w0 : 0 ≤ w) (w1 : w ≤ 65535) (ht : TabH h) :
    SpecR Tryd.prog 7 [.string ⟨⟨s⟩⟩, .string ⟨⟨t⟩⟩, .int .u16 w, .int .u8 c.toNat] h fun r h' => r = .bool true ∧ Own h [] h' := by
  refine Spec.enter Tryd.func7 rfl Tryd.ntmps7 (by kernel_rfl) ?_
  have hc8 := u8_lt c
  refine CallVC.ret (head_spec h ht) ?_
  rintro _ h1 ⟨rfl, o1⟩
  by_cases hs : 2000 < s.length
  · refine StillVC.run (StillVC.lenS rfl str9 ?_)
    refine Br.dec (fun c21 => ?_) (fun hc => absurd (by omega) hc)
    refine Br.tt ?_
    refine RetVC.one rfl ?_
    exact ⟨rfl, o1⟩
  by_cases hs2 : 2000 < t.length
  · refine StillVC.run (StillVC.lenS rfl str9 ?_)
    refine Br.dec (fun hc => absurd hc (by omega)) (fun c21 => ?_)
    refine StillVC.run (StillVC.lenS rfl str9 ?_)
    refine Br.dec (fun c23 => ?_) (fun hc => absurd (by omega) hc)
    refine Br.tt ?_
    refine RetVC.one rfl ?_
    exact ⟨rfl, o1⟩
  by_cases hs3 : s.length = 0
  · refine StillVC.run (StillVC.lenS rfl str9 ?_)
    refine Br.dec (fun hc => absurd hc (by omega)) (fun c21 => ?_)
    refine StillVC.run (StillVC.lenS rfl str9 ?_)
    refine Br.dec (fun hc => absurd hc (by omega)) (fun c23 => ?_)
    refine StillVC.run (StillVC.lenS rfl str9 ?_)
    refine Br.dec (fun c25 => ?_) (fun hc => absurd (by omega) hc)
    refine RetVC.one rfl ?_
    exact ⟨rfl, o1⟩
  obtain ⟨i, hi⟩ : ∃ i : Nat, w % (s.length : Int) = i := ⟨(w % (s.length : Int)).toNat, by have := Int.emod_nonneg w (show (s.length : Int) ≠ 0 by omega); omega⟩
  have hil : i < s.length := by have := Int.emod_lt_of_pos w (show 0 < (s.length : Int) by omega); omega
  obtain ⟨x, hx⟩ := getx hil
  have hch := changed hil c
  have hw : w.tmod s.length = i := by rw [Int.tmod_eq_emod_of_nonneg w0, hi]
  have hE := o1.ext
  clear o1
  have o0 := Own.refl h1
  have hbad : List.drop (Int.toNat 0) (List.take (w % (s.length : Int)).toNat s) ++ [c] ++ List.drop (w % (s.length : Int) + 1).toNat (List.take (↑s.length : Int).toNat s) = s.set i c := by
    rw [hi, show ((i : Int) + 1).toNat = i + 1 by omega, ← hch]; simp
  have hbl : (s.set i c).length = s.length := by simp
  have hSx : s.set i c = s ∨ sumL s ≠ sumL (s.set i c) ∧ s ≠ s.set i c := by
    by_cases hcx : c = x
    · obtain ⟨hl2, he⟩ := List.getElem?_eq_some_iff.1 hx
      exact .inl (by rw [hcx, ← he]; simp)
    · refine .inr ⟨fun e => hcx (sum_set hx e.symm), fun e => hcx ?_⟩
      have := hx
      rw [e, List.getElem?_set_self (by omega)] at this
      simpa using this
  have hr := sumL_range s
  have hdf := fun (e : s.length = t.length) (d : diffs s t = 1) => sums_differ e d
  refine StillVC.run (StillVC.lenS rfl str9 ?_)
  refine Br.dec (fun hc => absurd hc (by omega)) (fun c41 => ?_)
  refine StillVC.run (StillVC.lenS rfl str9 ?_)
  refine Br.dec (fun hc => absurd hc (by omega)) (fun c43 => ?_)
  refine StillVC.run (StillVC.lenS rfl str9 ?_)
  refine Br.dec (fun hc => absurd hc (by omega)) (fun c45 => ?_)
  refine StillVC.run (StillVC.convI rfl int34 int3 ?_)
  refine Ar.i64 (by omega) (by omega) ?_
  refine StillVC.run (StillVC.lenS rfl str9 ?_)
  refine StillVC.run (StillVC.remE rfl rfl (by omega) (by omega) ?_)
  refine DrawVC.intro [0, 1, 2, 3, 6, 7, 8, 9, 10, 11, 12] [5] [] [0, 1, 2, 3, 7, 8, 9, 10, 4, 5, 6, 11, 12] mixed (by kernel_rfl) rfl (fun _ _ _ _ h => h) ?_
  refine StillVC.sliceS str9 rfl rfl ⟨_, rfl⟩ (by omega) (by omega) (by omega) ?_
  refine Ar.i64 (by omega) (by omega) ?_
  refine StillVC.sliceS str9 rfl ⟨_, rfl⟩ rfl (by omega) (by omega) (by omega) ?_
  (refine RunVC.lit o0 sl35 ty5 rfl rfl (by decide) (And.intro rfl ?_); intro b51 m51 o51)
  refine And.intro o51.ext ?_
  refine StillVC.bytesStr (l := [c]) (o51.boxArr 0 rfl rfl (Nat.le_refl _)) sl35 int5 str9 ?_
  refine StillVC.strAdd rfl rfl (by first | omega | (simp; omega)) ?_
  refine StillVC.strAdd rfl rfl (by first | omega | (simp; omega)) ?_
  rw [hbad]
  clear hbad hch
  refine CallVC.ret (sum_spec s _ (by omega)) ?_
  rintro _ h2 ⟨rfl, oc⟩
  have o2 := o51.ext' oc
  clear oc o51
  generalize s.set i c = s' at *
  refine CallVC.ret (sum_spec s' _ (by omega)) ?_
  rintro _ h3 ⟨rfl, oc⟩
  have o3 := (o2.ext' oc).sel [] rfl
  clear oc o2
  generalize hu : sumL s = u at *
  have hbe : decide (u = sumL s') = decide (s = s') := by
    rcases hSx with e | ⟨e1, e2⟩
    · have : u = sumL s' := by rw [e]; exact hu.symm
      rw [decide_eq_true this, decide_eq_true e.symm]
    · rw [decide_eq_false e1, decide_eq_false e2]
  by_cases hlt : s.length = t.length
  · skip
    refine LoopVC.intro [14, 15, 52, 53, 54, 55, 56, 57, 58, 59, 60, 61, 62, 63, 64, 65, 66, 67, 68, 69, 70, 71, 72, 73] [14, 15] (fun vs hh => ∃ (k : Nat), k ≤ s.length ∧ vs = [.int .i64 (diffs (s.take k) (t.take k) : Nat), .int .i64 k] ∧ hh = h3) (fun vs _ => match vs with | [_, .int _ k] => s.length - k.toNat | _ => 0) ?_ ?_
    · exact ⟨0, by omega, rfl, rfl⟩
    · rintro vs junk hh ⟨k, hk, rfl, rfl⟩
      have hdl := diffs_le (s.take k) (t.take k)
      rw [List.length_take] at hdl
      by_cases hkl : k < s.length
      · obtain ⟨y, hy⟩ := getx hkl
        obtain ⟨z, hz⟩ := getx (show k < t.length by omega)
        have hst := diffs_take hy hz
        by_cases hyz : y = z
        · subst hyz
          refine StillVC.run (StillVC.lenS rfl str9 ?_)
          refine Br.dec (fun c81 => ?_) (fun hc => absurd (by omega) hc)
          refine StillVC.run (StillVC.lenS rfl str9 ?_)
          refine StillVC.run (StillVC.lenS rfl str9 ?_)
          refine Br.dec (fun c84 => ?_) (fun hc => absurd (by omega) hc)
          refine DrawVC.intro [0, 1, 2, 3, 4, 5, 6] [] [] [0, 1, 2, 3, 4, 5, 6] mixed (by kernel_rfl) rfl (fun _ _ _ _ h => h) ?_
          refine StillVC.strIdx rfl rfl str9 (by omega) (by assumption) ?_
          refine StillVC.strIdx rfl rfl str9 (by omega) (by assumption) ?_
          refine Br.ndec (fun hc => absurd (by first | omega | assumption | decide | exact rfl) hc) (fun c87 => ?_)
          refine Ar.i64 (by omega) (by omega) ?_
          refine ⟨rfl, ?_⟩
          exact ⟨⟨k + 1, by omega, by rw [hst, if_pos rfl]; rfl, rfl⟩, by simp; omega⟩
        · have hyz2 : y.toNat ≠ z.toNat := fun e => hyz (UInt8.toNat_inj.1 e)
          refine StillVC.run (StillVC.lenS rfl str9 ?_)
          refine Br.dec (fun c91 => ?_) (fun hc => absurd (by omega) hc)
          refine StillVC.run (StillVC.lenS rfl str9 ?_)
          refine StillVC.run (StillVC.lenS rfl str9 ?_)
          refine Br.dec (fun c94 => ?_) (fun hc => absurd (by omega) hc)
          refine DrawVC.intro [0, 1, 2, 3, 4, 5, 6] [] [] [0, 1, 2, 3, 4, 5, 6] mixed (by kernel_rfl) rfl (fun _ _ _ _ h => h) ?_
          refine StillVC.strIdx rfl rfl str9 (by omega) (by assumption) ?_
          refine StillVC.strIdx rfl rfl str9 (by omega) (by assumption) ?_
          refine Br.ndec (fun c97 => ?_) (fun hc => absurd hc (by first | omega | assumption | decide | exact rfl))
          refine Ar.i64 (by omega) (by omega) ?_
          refine Ar.i64 (by omega) (by omega) ?_
          refine ⟨rfl, ?_⟩
          exact ⟨⟨k + 1, by omega, by rw [hst, if_neg hyz]; rfl, rfl⟩, by simp; omega⟩
      · obtain rfl : k = s.length := by omega
        rw [List.take_length, List.take_of_length_le (by omega)]
        by_cases hd1 : diffs s t = 1
        · have hdd := hdf hlt hd1
          refine StillVC.run (StillVC.lenS rfl str9 ?_)
          refine Br.dec (fun hc => absurd hc (by omega)) (fun c101 => ?_)
          refine Br.ff ?_
          refine Br.tt ?_
          refine Br.dec (fun c102 => ?_) (fun hc => absurd (by omega) hc)
          refine Br.dec (fun c103 => ?_) (fun hc => absurd (by omega) hc)
          refine StillVC.run (StillVC.eqB bool4 rfl rfl ?_)
          refine Br.dec (fun c105 => ?_) (fun hc => absurd (by omega) hc)
          refine Br.ndec (fun hc => absurd (by first | omega | assumption | decide | exact rfl) hc) (fun c106 => ?_)
          refine CallVC.ret (sum_spec t _ (by omega)) ?_
          rintro _ h4 ⟨rfl, oc⟩
          have o4 := o3.ext' oc
          refine RetVC.one rfl ?_
          exact ⟨by simp [hdd], Own.of_ext (hE.trans o4.ext)⟩
        · refine StillVC.run (StillVC.lenS rfl str9 ?_)
          refine Br.dec (fun hc => absurd hc (by omega)) (fun c111 => ?_)
          refine Br.ff ?_
          refine Br.tt ?_
          refine Br.dec (fun c112 => ?_) (fun hc => absurd (by omega) hc)
          refine Br.dec (fun c113 => ?_) (fun hc => absurd (by omega) hc)
          refine StillVC.run (StillVC.eqB bool4 rfl rfl ?_)
          refine Br.dec (fun c115 => ?_) (fun hc => absurd (by omega) hc)
          refine Br.ndec (fun c116 => ?_) (fun hc => absurd hc (by first | omega | assumption | decide | exact rfl))
          refine RetVC.one rfl ?_
          all_goals first | exact absurd hbe (by assumption) | exact ⟨by simp, Own.of_ext (hE.trans o3.ext)⟩
  · skip
    refine LoopVC.intro [14, 15, 52, 53, 54, 55, 56, 57, 58, 59, 60, 61, 62, 63, 64, 65, 66, 67, 68, 69, 70, 71, 72, 73] [14, 15] (fun vs hh => vs = [.int .i64 0, .int .i64 0] ∧ hh = h3) (fun vs _ => 0) ?_ ?_
    · exact ⟨rfl, rfl⟩
    · rintro vs junk hh ⟨rfl, rfl⟩
      refine StillVC.run (StillVC.lenS rfl str9 ?_)
      refine Br.dec (fun c131 => ?_) (fun hc => absurd (by omega) hc)
      refine StillVC.run (StillVC.lenS rfl str9 ?_)
      refine StillVC.run (StillVC.lenS rfl str9 ?_)
      refine Br.dec (fun hc => absurd hc (by omega)) (fun c134 => ?_)
      refine Br.tt ?_
      refine Br.dec (fun c135 => ?_) (fun hc => absurd (by omega) hc)
      refine Br.dec (fun c136 => ?_) (fun hc => absurd (by omega) hc)
      refine StillVC.run (StillVC.eqB bool4 rfl rfl ?_)
      refine Br.dec (fun c138 => ?_) (fun hc => absurd (by omega) hc)
      refine Br.tt ?_
      refine RetVC.one rfl ?_
      all_goals first | exact absurd hbe (by assumption) | exact ⟨by simp, Own.of_ext (hE.trans o3.ext)⟩

end Go.Proofs.YtihnelncimkegaaDoor
