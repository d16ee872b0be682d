/-
  The statement SealOnly of chapter 45, walked.
-/
import Derived.Test.YtihnelncimkegaaDoorStructs
import Derived.Test.YtihnelncimkegaaDoorFnSealHead
namespace Go.Proofs.YtihnelncimkegaaDoor
open Go

theorem getR_ok {e p : Int} {l b : List UInt8} (h : getR e p l = (b, 0)) : putR e p b = (l, 0) ∧ okS l = true ∧ (unbe (e8 l) : Int) = e ∧ (unbe (p4 l) : Int) = p ∧ b = bodyOf l := by
  unfold getR at h
  split at h
  · split at h
    · rename_i hk
      split at h
      · rename_i hm
        simp only [Prod.mk.injEq, and_true] at h
        subst h
        have := (okS_spec hk).2.2
        rw [hm.1, hm.2] at this
        exact ⟨this, hk, hm.1, hm.2, rfl⟩
      · simp at h
    · simp at h
  · simp at h

theorem only_cases (e p o a : Int) (l : List UInt8) (x y : List UInt8) (c f : Int) (h1 : getR e p l = (x, c)) (h2 : getR o a l = (y, f)) :
    (x = [] ∧ c = 1) ∨ (x = [] ∧ c ≠ 0 ∧ f = 1) ∨ (x = [] ∧ c = 20 ∧ f = 20) ∨ (x = [] ∧ c = 21 ∧ f ≠ 20) ∨ (c = 0 ∧ putR e p x = (l, 0) ∧ f ≠ 0) ∨ (c = 0 ∧ putR e p x = (l, 0) ∧ f = 0 ∧ o = e ∧ a = p ∧ y = x) := by
  by_cases hc : c = 0
  · subst hc
    obtain ⟨k1, k2, k3, k4, k5⟩ := getR_ok h1
    by_cases hf : f = 0
    · subst hf
      obtain ⟨j1, j2, j3, j4, j5⟩ := getR_ok h2
      exact .inr (.inr (.inr (.inr (.inr ⟨rfl, k1, rfl, by omega, by omega, by rw [j5, k5]⟩))))
    · exact .inr (.inr (.inr (.inr (.inl ⟨rfl, k1, hf⟩))))
  · cases hp : placedB e p with
    | false =>
      simp [getR, hp] at h1
      exact .inl ⟨h1.1, h1.2.symm⟩
    | true =>
      have hx : x = [] ∧ (c = 20 ∧ okS l = false ∨ c = 21 ∧ okS l = true) := by
        unfold getR at h1
        rw [if_pos hp] at h1
        cases hk : okS l with
        | false =>
          simp [hk] at h1
          exact ⟨h1.1, .inl ⟨h1.2.symm, rfl⟩⟩
        | true =>
          rw [if_pos hk] at h1
          split at h1
          · simp at h1; exact absurd h1.2.symm hc
          · simp at h1
            exact ⟨h1.1, .inr ⟨h1.2.symm, rfl⟩⟩
      cases hq : placedB o a with
      | false =>
        simp [getR, hq] at h2
        exact .inr (.inl ⟨hx.1, hc, h2.2.symm⟩)
      | true =>
        unfold getR at h2
        rw [if_pos hq] at h2
        rcases hx with ⟨hx, ⟨rfl, hk⟩ | ⟨rfl, hk⟩⟩
        · simp [hk] at h2
          exact .inr (.inr (.inl ⟨hx, rfl, h2.2.symm⟩))
        · rw [if_pos hk] at h2
          refine .inr (.inr (.inr (.inl ⟨hx, rfl, ?_⟩)))
          split at h2
          · simp at h2; omega
          · simp at h2; omega

theorem getR_len (e p : Int) (l : List UInt8) : (getR e p l).1.length ≤ l.length := by
  unfold getR
  split
  · split
    · split
      · simp [bodyOf]; omega
      · simp
    · simp
  · simp

set_option maxHeartbeats 1600000 in
set_option maxRecDepth 100000 in
theorem only_spec (e p : Int) (l : List UInt8) (o a : Int) (h : Heap) (hl : l.length ≤ 140737488351232) (ht : TabH h) :
    SpecR Tryd.prog 6 [.int .i64 e, .int .i64 p, .string ⟨⟨l⟩⟩, .int .i64 o, .int .i64 a] h fun r h' => r = .bool true ∧ Own h [] h' := by
  refine Spec.enter Tryd.func6 rfl Tryd.ntmps6 (by kernel_rfl) ?_
  refine CallVC.ret (head_spec h ht) ?_
  rintro _ h1 ⟨rfl, o1⟩
  by_cases h200 : 200 < l.length
  · refine StillVC.run (StillVC.lenS rfl str9 ?_)
    refine Br.dec (fun c21 => ?_) (fun hc => absurd (by omega) hc)
    refine RetVC.one rfl ?_
    exact ⟨rfl, o1⟩
  refine StillVC.run (StillVC.lenS rfl str9 ?_)
  refine Br.dec (fun hc => absurd hc (by omega)) (fun c31 => ?_)
  refine CallVC.ret (get_spec e p l _ hl) ?_
  rintro _ h2 ⟨rfl, oc⟩
  have o2 := o1.ext' oc
  clear oc o1
  refine CallVC.ret (get_spec o a l _ hl) ?_
  rintro _ h3 ⟨rfl, oc⟩
  have o3 := o2.ext' oc
  clear oc o2
  have key := only_cases e p o a l (getR e p l).1 (getR o a l).1 (getR e p l).2 (getR o a l).2 rfl rfl
  have hx := getR_len e p l
  generalize (getR e p l).1 = x at *
  generalize (getR e p l).2 = c at *
  generalize (getR o a l).1 = y at *
  generalize (getR o a l).2 = f at *
  rcases key with ⟨rfl, rfl⟩ | ⟨rfl, k1, rfl⟩ | ⟨rfl, rfl, rfl⟩ | ⟨rfl, rfl, k1⟩ | ⟨rfl, k1, k2⟩ | ⟨rfl, k1, rfl, rfl, rfl, rfl⟩
  · refine Br.tt ?_
    refine Br.tt ?_
    refine Br.tt ?_
    refine Br.tt ?_
    refine RetVC.one rfl ?_
    all_goals exact ⟨by first | (simp; done) | (simp; omega), by assumption⟩
  · refine Br.ndec (fun c60 => ?_) (fun hc => absurd hc (by first | omega | assumption | decide | exact rfl))
    refine Br.tt ?_
    refine Br.tt ?_
    refine Br.dec (fun c61 => ?_) (fun c61 => ?_)
    refine RetVC.one rfl ?_
    rotate_left
    refine Br.tt ?_
    refine RetVC.one rfl ?_
    all_goals exact ⟨by first | (simp; done) | (simp; omega), by assumption⟩
  · refine Br.tt ?_
    refine Br.tt ?_
    refine Br.tt ?_
    refine Br.ff ?_
    refine Br.ff ?_
    refine StillVC.run (StillVC.eqB bool4 rfl rfl ?_)
    refine RetVC.one rfl ?_
    all_goals exact ⟨by first | (simp; done) | (simp; omega), by assumption⟩
  · refine Br.tt ?_
    refine Br.tt ?_
    refine Br.tt ?_
    refine Br.ff ?_
    refine Br.dec (fun c80 => ?_) (fun c80 => ?_)
    refine RetVC.one rfl ?_
    rotate_left
    refine StillVC.run (StillVC.eqB bool4 rfl rfl ?_)
    refine RetVC.one rfl ?_
    all_goals exact ⟨by first | (simp; done) | (simp; omega), by assumption⟩
  · refine Br.ff ?_
    refine CallVC.ret (put_spec e p x _ (by omega)) ?_
    rintro _ h4 ⟨rfl, oc⟩
    have o4 := o3.ext' oc
    rw [k1]
    refine Br.dec (fun hc => absurd hc (by omega)) (fun c100 => ?_)
    refine Br.ff ?_
    refine Br.tt ?_
    refine Br.dec (fun c101 => ?_) (fun hc => absurd (by omega) hc)
    refine RetVC.one rfl ?_
    all_goals exact ⟨by first | (simp; done) | (simp; omega), by assumption⟩
  · refine Br.ff ?_
    refine CallVC.ret (put_spec _ _ _ _ (by omega)) ?_
    rintro _ h4 ⟨rfl, oc⟩
    have o4 := o3.ext' oc
    rw [k1]
    refine Br.tt ?_
    refine Br.ndec (fun hc => absurd (by first | omega | assumption | decide | exact rfl) hc) (fun c120 => ?_)
    refine Br.ndec (fun hc => absurd (by first | omega | assumption | decide | exact rfl) hc) (fun c121 => ?_)
    refine Br.ndec (fun hc => absurd (by first | omega | assumption | decide | exact rfl) hc) (fun c122 => ?_)
    refine Br.tt ?_
    refine Br.dec (fun c123 => ?_) (fun hc => absurd (by omega) hc)
    refine RetVC.one rfl ?_
    all_goals exact ⟨by first | (simp; done) | (simp; omega), by assumption⟩

end Go.Proofs.YtihnelncimkegaaDoor
