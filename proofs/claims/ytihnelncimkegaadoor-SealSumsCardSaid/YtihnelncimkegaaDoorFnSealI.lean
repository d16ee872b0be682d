/-
  The statement SealInverse of chapter 45, walked.
-/
import Derived.Test.YtihnelncimkegaaDoorStructs
import Derived.Test.YtihnelncimkegaaDoorFnSealHead
namespace Go.Proofs.YtihnelncimkegaaDoor
open Go

theorem not_placed {e p : Int} (h : placedB e p = false) : ¬ (0 ≤ e ∧ e ≤ 1000000000 ∧ 0 ≤ p ∧ p < 4000) := by
  simp [placedB] at h; omega

set_option maxHeartbeats 1600000 in
set_option maxRecDepth 100000 in
theorem inverse_spec (e p : Int) (b : List UInt8) (o a : Int) (h : Heap) (hl : b.length ≤ 140737488351232) (ht : TabH h) :
    SpecR Tryd.prog 4 [.int .i64 e, .int .i64 p, .string ⟨⟨b⟩⟩, .int .i64 o, .int .i64 a] h fun r h' => r = .bool true ∧ Own h [] h' := by
  refine Spec.enter Tryd.func4 rfl Tryd.ntmps4 (by kernel_rfl) ?_
  refine CallVC.ret (head_spec h ht) ?_
  rintro _ h1 ⟨rfl, o1⟩
  refine CallVC.ret (put_spec e p b _ hl) ?_
  rintro _ h2 ⟨rfl, oc⟩
  have o2 := o1.ext' oc
  clear oc o1
  cases hp : placedB e p with
  | false =>
    have hn := not_placed hp
    rw [show (putR e p b).1 = [] by simp [putR, hp], show (putR e p b).2 = 1 by simp [putR, hp]]
    refine Br.tt ?_
    refine Br.tt ?_
    refine Br.tt ?_
    refine Br.dec (fun c30 => ?_) (fun c30 => ?_)
    refine RetVC.one rfl ?_
    rotate_left
    refine Br.dec (fun c31 => ?_) (fun c31 => ?_)
    refine RetVC.one rfl ?_
    rotate_left
    refine Br.dec (fun c32 => ?_) (fun c32 => ?_)
    refine RetVC.one rfl ?_
    rotate_left
    refine Br.dec (fun c33 => ?_) (fun hc => absurd (by omega) hc)
    refine RetVC.one rfl ?_
    all_goals exact ⟨by first | (simp; done) | (simp; omega), by assumption⟩
  | true =>
    by_cases hb : b.length ≤ 40
    · rw [show (putR e p b).1 = putL e.toNat p.toNat b by simp [putR, hp, hb], show (putR e p b).2 = 0 by simp [putR, hp, hb]]
      have hS := putL_len (e := e.toNat) (p := p.toNat) hb
      have hG := fun o a => get_put (o := o) (a := a) hp hb
      generalize putL e.toNat p.toNat b = S at *
      refine Br.ff ?_
      refine CallVC.ret (get_spec e p S _ (by omega)) ?_
      rintro _ h3 ⟨rfl, oc⟩
      have o3 := o2.ext' oc
      clear oc o2
      rw [show (getR e p S).1 = b by simp [hG, hp], show (getR e p S).2 = 0 by simp [hG, hp]]
      refine CallVC.ret (get_spec o a S _ (by omega)) ?_
      rintro _ h4 ⟨rfl, oc⟩
      have o4 := o3.ext' oc
      clear oc o3
      cases hq : placedB o a with
      | false =>
        have hn := not_placed hq
        rw [show (getR o a S).1 = [] by simp [hG, hq], show (getR o a S).2 = 1 by simp [hG, hq]]
        refine StillVC.run (StillVC.lenS rfl str9 ?_)
        refine Br.ndec (fun hc => absurd (by first | omega | assumption | decide | exact rfl) hc) (fun c61 => ?_)
        refine Br.ff ?_
        refine Br.ndec (fun hc => absurd (by first | omega | assumption | decide | exact rfl) hc) (fun c62 => ?_)
        refine Br.dec (fun c63 => ?_) (fun c63 => ?_)
        refine Br.tt ?_
        refine Br.tt ?_
        refine Br.tt ?_
        refine RetVC.one rfl ?_
        rotate_left
        refine Br.dec (fun c64 => ?_) (fun c64 => ?_)
        refine Br.tt ?_
        refine Br.tt ?_
        refine Br.tt ?_
        refine RetVC.one rfl ?_
        rotate_left
        refine Br.dec (fun c65 => ?_) (fun c65 => ?_)
        refine Br.tt ?_
        refine Br.tt ?_
        refine Br.tt ?_
        refine RetVC.one rfl ?_
        rotate_left
        refine Br.dec (fun c66 => ?_) (fun hc => absurd (by omega) hc)
        refine Br.tt ?_
        refine Br.tt ?_
        refine RetVC.one rfl ?_
        all_goals exact ⟨by first | (simp; done) | (simp; omega), by assumption⟩
      | true =>
        have hm := placedB_spec hq
        by_cases hee : e = o ∧ p = a
        · rw [show (getR o a S).1 = b by simp [hG, hq, hee], show (getR o a S).2 = 0 by simp [hG, hq, hee]]
          obtain ⟨rfl, rfl⟩ := hee
          refine StillVC.run (StillVC.lenS rfl str9 ?_)
          refine Br.ndec (fun hc => absurd (by first | omega | assumption | decide | exact rfl) hc) (fun c71 => ?_)
          refine Br.ff ?_
          refine Br.ndec (fun hc => absurd (by first | omega | assumption | decide | exact rfl) hc) (fun c72 => ?_)
          refine Br.dec (fun hc => absurd hc (by omega)) (fun c73 => ?_)
          refine Br.dec (fun hc => absurd hc (by omega)) (fun c74 => ?_)
          refine Br.dec (fun hc => absurd hc (by omega)) (fun c75 => ?_)
          refine Br.dec (fun hc => absurd hc (by omega)) (fun c76 => ?_)
          refine Br.ndec (fun hc => absurd (by first | omega | assumption | decide | exact rfl) hc) (fun c77 => ?_)
          refine Br.ndec (fun hc => absurd (by first | omega | assumption | decide | exact rfl) hc) (fun c78 => ?_)
          refine Br.tt ?_
          refine Br.tt ?_
          refine RetVC.one rfl ?_
          all_goals exact ⟨by first | (simp; done) | (simp; omega), by assumption⟩
        · rw [show (getR o a S).1 = [] by simp [hG, hq, hee], show (getR o a S).2 = 21 by simp [hG, hq, hee]]
          refine StillVC.run (StillVC.lenS rfl str9 ?_)
          refine Br.ndec (fun hc => absurd (by first | omega | assumption | decide | exact rfl) hc) (fun c81 => ?_)
          refine Br.ff ?_
          refine Br.ndec (fun hc => absurd (by first | omega | assumption | decide | exact rfl) hc) (fun c82 => ?_)
          refine Br.dec (fun hc => absurd hc (by omega)) (fun c83 => ?_)
          refine Br.dec (fun hc => absurd hc (by omega)) (fun c84 => ?_)
          refine Br.dec (fun hc => absurd hc (by omega)) (fun c85 => ?_)
          refine Br.dec (fun hc => absurd hc (by omega)) (fun c86 => ?_)
          refine Br.ndec (fun c87 => ?_) (fun c87 => ?_)
          refine Br.tt ?_
          refine Br.tt ?_
          refine Br.tt ?_
          refine RetVC.one rfl ?_
          rotate_left
          refine Br.ndec (fun c88 => ?_) (fun hc => absurd hc (by first | omega | assumption | decide | exact rfl))
          refine Br.tt ?_
          refine Br.tt ?_
          refine RetVC.one rfl ?_
          all_goals exact ⟨by first | (simp; done) | (simp; omega), by assumption⟩
    · rw [show (putR e p b).1 = [] by simp [putR, hp, hb], show (putR e p b).2 = 3 by simp [putR, hp, hb]]
      refine Br.tt ?_
      refine Br.tt ?_
      refine Br.tt ?_
      refine Br.dec (fun c90 => ?_) (fun c90 => ?_)
      refine RetVC.one rfl ?_
      rotate_left
      refine Br.dec (fun c91 => ?_) (fun c91 => ?_)
      refine RetVC.one rfl ?_
      rotate_left
      refine Br.dec (fun c92 => ?_) (fun c92 => ?_)
      refine RetVC.one rfl ?_
      rotate_left
      refine Br.dec (fun c93 => ?_) (fun c93 => ?_)
      refine RetVC.one rfl ?_
      rotate_left
      refine StillVC.run (StillVC.lenS rfl str9 ?_)
      refine RetVC.one rfl ?_
      all_goals exact ⟨by first | (simp; done) | (simp; omega), by assumption⟩

end Go.Proofs.YtihnelncimkegaaDoor
