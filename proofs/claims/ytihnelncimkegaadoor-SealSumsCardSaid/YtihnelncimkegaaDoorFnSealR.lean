/-
  The statement SealRot of chapter 45, walked.
-/
import Derived.Test.YtihnelncimkegaaDoorStructs
import Derived.Test.YtihnelncimkegaaDoorFnSealHead
import Derived.Test.YtihnelncimkegaaDoorFnSealI
namespace Go.Proofs.YtihnelncimkegaaDoor
open Go

theorem changed {S : List UInt8} {i : Nat} (hi : i < S.length) (c : UInt8) : S.take i ++ [c] ++ S.drop (i + 1) = S.set i c := by rw [set_split hi]; simp

set_option maxHeartbeats 1600000 in
set_option maxRecDepth 100000 in
theorem rot_spec (e p : Int) (b : List UInt8) (w : Int) (c : UInt8) (o a : Int) (h : Heap) (hl : b.length ≤ 140737488351232) (w0 : 0 ≤ w) (w1 : w ≤ 255) (lo : 0 ≤ o) (ho : o ≤ 65535) (la : 0 ≤ a) (ha : a ≤ 65535) (ht : TabH h) :
    SpecR Tryd.prog 5 [.int .i64 e, .int .i64 p, .string ⟨⟨b⟩⟩, .int .u8 w, .int .u8 c.toNat, .int .u16 o, .int .u16 a] h fun r h' => r = .bool true ∧ Own h [] h' := by
  refine Spec.enter Tryd.func5 rfl Tryd.ntmps5 (by kernel_rfl) ?_
  have hc8 := u8_lt c
  refine CallVC.ret (head_spec h ht) ?_
  rintro _ h1 ⟨rfl, o1⟩
  refine CallVC.ret (put_spec e p b _ hl) ?_
  rintro _ h2 ⟨rfl, oc⟩
  have o2 := o1.ext' oc
  clear oc o1
  cases hp : placedB e p with
  | false =>
    rw [show (putR e p b).1 = [] by simp [putR, hp], show (putR e p b).2 = 1 by simp [putR, hp]]
    refine Br.tt ?_
    refine Br.tt ?_
    refine Br.tt ?_
    refine RetVC.one rfl ?_
    all_goals exact ⟨by first | (simp; done) | (simp; omega), by assumption⟩
  | true =>
    by_cases hb : b.length ≤ 40
    · rw [show (putR e p b).1 = putL e.toNat p.toNat b by simp [putR, hp, hb], show (putR e p b).2 = 0 by simp [putR, hp, hb]]
      have hS := putL_len (e := e.toNat) (p := p.toNat) hb
      have hG := fun o a => get_put (o := o) (a := a) hp hb
      have hR := fun (o a : Int) (i : Nat) (x c : UInt8) hx hc ho => get_rot (o := o) (a := a) (e := e) (p := p) (b := b) hb (i := i) (x := x) (c := c) hx hc ho
      generalize putL e.toNat p.toNat b = S at *
      obtain ⟨i, hi⟩ : ∃ i : Nat, w % 64 = i := ⟨(w % 64).toNat, by omega⟩
      have hi64 : i < 64 := by omega
      have hq : placedB o (a % 4000) = true := by simp [placedB]; omega
      obtain ⟨x, hx⟩ := getx (show i < S.length by omega)
      have hch := changed (show i < S.length by omega) c
      have hw : w.tmod 64 = i := by rw [Int.tmod_eq_emod_of_nonneg w0, hi]
      have haw : a.tmod 4000 = a % 4000 := Int.tmod_eq_emod_of_nonneg la
      have hE := o2.ext
      clear o2
      have o0 := Own.refl h2
      refine Br.ff ?_
      refine StillVC.run (StillVC.lenS rfl str9 ?_)
      refine Br.ndec (fun hc => absurd (by first | omega | assumption | decide | exact rfl) hc) (fun c41 => ?_)
      refine StillVC.run (StillVC.convI rfl int5 int3 ?_)
      refine Ar.i64 (by omega) (by omega) ?_
      refine StillVC.run (StillVC.remE rfl rfl (by omega) (by omega) ?_)
      refine DrawVC.intro [0, 1, 2, 3, 6, 7, 8, 9, 10, 11, 12] [5] [] [0, 1, 2, 3, 7, 8, 9, 10, 4, 5, 6, 11, 12] mixed (by kernel_rfl) rfl (fun _ _ _ _ h => h) ?_
      refine StillVC.sliceS str9 rfl rfl ⟨_, rfl⟩ (by omega) (by omega) (by omega) ?_
      refine Ar.i64 (by omega) (by omega) ?_
      refine StillVC.sliceS str9 rfl ⟨_, rfl⟩ rfl (by omega) (by omega) (by omega) ?_
      (refine RunVC.lit o0 sl35 ty5 rfl rfl (by decide) (And.intro rfl ?_); intro b46 m46 o46)
      refine And.intro o46.ext ?_
      refine StillVC.bytesStr (l := [c]) (o46.boxArr 0 rfl rfl (Nat.le_refl _)) sl35 int5 str9 ?_
      have hbad : List.drop (Int.toNat 0) (List.take (w % 64).toNat S) ++ [c] ++ List.drop (w % 64 + 1).toNat (List.take (↑S.length : Int).toNat S) = S.set i c := by
        rw [hi, show ((i : Int) + 1).toNat = i + 1 by omega, ← hch]; simp
      have hbl : (S.set i c).length = 64 := by simp [hS]
      refine StillVC.strAdd rfl rfl (by first | omega | (simp; omega)) ?_
      refine StillVC.strAdd rfl rfl (by first | omega | (simp; omega)) ?_
      rw [hbad]
      clear hbad hch
      by_cases hcx : c = x
      · have hSS : S.set i c = S := by
          obtain ⟨hl, he⟩ := List.getElem?_eq_some_iff.1 hx
          rw [hcx, ← he]; simp
        rw [hSS]
        refine CallVC.ret (get_spec e p S _ (by omega)) ?_
        rintro _ h3 ⟨rfl, oc⟩
        have o3 := o46.ext' oc
        clear oc o46
        rw [show (getR e p S).2 = 0 by simp [hG, hp]]
        refine StillVC.run (StillVC.convI rfl int34 int3 ?_)
        refine Ar.i64 (by omega) (by omega) ?_
        refine StillVC.run (StillVC.convI rfl int34 int3 ?_)
        refine Ar.i64 (by omega) (by omega) ?_
        refine StillVC.run (StillVC.remE rfl rfl (by omega) (by omega) ?_)
        refine CallVC.ret (get_spec o (a % 4000) S _ (by omega)) ?_
        rintro _ h4 ⟨rfl, oc⟩
        have o4 := o3.ext' oc
        clear oc o3
        subst hcx
        have hx2 : S[(w % 64).toNat]? = some c := by rw [hi]; simpa using hx
        refine StillVC.run (StillVC.strIdx rfl rfl str9 (by omega) (by assumption) ?_)
        refine Br.dec (fun c61 => ?_) (fun hc => absurd (by omega) hc)
        refine Br.tt ?_
        refine RetVC.one rfl ?_
        exact ⟨rfl, Own.of_ext (hE.trans o4.ext)⟩
      · have hcx2 : c.toNat ≠ x.toNat := fun e => hcx (UInt8.toNat_inj.1 e)
        have hx2 : S[(w % 64).toNat]? = some x := by rw [hi]; simpa using hx
        have hg1 := hR e p i x c hx hcx hp
        have hg2 := hR o (a % 4000) i x c hx hcx hq
        generalize S.set i c = S' at *
        refine CallVC.ret (get_spec e p S' _ (by omega)) ?_
        rintro _ h3 ⟨rfl, oc⟩
        have o3 := o46.ext' oc
        clear oc o46
        rw [show (getR e p S').2 = 20 by rw [hg1]]
        refine StillVC.run (StillVC.convI rfl int34 int3 ?_)
        refine Ar.i64 (by omega) (by omega) ?_
        refine StillVC.run (StillVC.convI rfl int34 int3 ?_)
        refine Ar.i64 (by omega) (by omega) ?_
        refine StillVC.run (StillVC.remE rfl rfl (by omega) (by omega) ?_)
        refine CallVC.ret (get_spec o (a % 4000) S' _ (by omega)) ?_
        rintro _ h4 ⟨rfl, oc⟩
        have o4 := o3.ext' oc
        clear oc o3
        rw [show (getR o (a % 4000) S').2 = 20 by rw [hg2]]
        refine StillVC.run (StillVC.strIdx rfl rfl str9 (by omega) (by assumption) ?_)
        refine Br.dec (fun hc => absurd hc (by omega)) (fun c81 => ?_)
        refine Br.tt ?_
        refine Br.tt ?_
        refine RetVC.one rfl ?_
        exact ⟨rfl, Own.of_ext (hE.trans o4.ext)⟩
    · rw [show (putR e p b).1 = [] by simp [putR, hp, hb], show (putR e p b).2 = 3 by simp [putR, hp, hb]]
      refine Br.tt ?_
      refine Br.tt ?_
      refine Br.tt ?_
      refine RetVC.one rfl ?_
      all_goals exact ⟨by first | (simp; done) | (simp; omega), by assumption⟩

end Go.Proofs.YtihnelncimkegaaDoor
