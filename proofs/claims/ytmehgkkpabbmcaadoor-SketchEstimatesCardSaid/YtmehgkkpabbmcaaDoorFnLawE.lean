/-
  The statement SketchEstimates of chapter 5, walked.
-/
import Derived.Test.YtmehgkkpabbmcaaDoorStructs
import Derived.Test.YtmehgkkpabbmcaaDoorFnHead
namespace Go.Proofs.YtmehgkkpabbmcaaDoor
open Go

theorem sameL_symm : ∀ a b : List Int, sameL a b = sameL b a
  | [], b => by simp [sameL]
  | _ :: _, [] => by simp [sameL]
  | x :: a, y :: b => by
    have ih := sameL_symm a b
    unfold sameL at ih ⊢
    simp only [List.zip_cons_cons, List.countP_cons, ih]
    congr 1
    by_cases h : x = y
    · simp [h]
    · simp [h, Ne.symm h]

theorem estR_symm (a b : List Int) : estR b a = estR a b := by
  unfold estR
  by_cases h : a.length = b.length
  · rw [sameL_symm b a, h, Bool.and_comm (okB b)]
  · rw [decide_eq_false h, decide_eq_false (Ne.symm h), Bool.and_false, Bool.and_false]; rfl

theorem sameL_full : ∀ {a b : List Int}, a.length = b.length → (sameL a b = a.length ↔ a = b)
  | [], [], _ => by simp [sameL]
  | [], _ :: _, h => by simp at h
  | _ :: _, [], h => by simp at h
  | x :: a, y :: b, h => by
    have ih := sameL_full (a := a) (b := b) (by simpa using h)
    have hle := sameL_le a b
    unfold sameL at ih hle ⊢
    simp only [List.zip_cons_cons, List.countP_cons, List.length_cons, List.cons.injEq]
    by_cases hxy : x = y
    · simp [hxy, ih]
    · simp [hxy]; omega

theorem est_facts {a b : List Int} (h : (estR a b).2 = 0) : 0 ≤ (estR a b).1.1 ∧ 1 ≤ (estR a b).1.2 ∧ (estR a b).1.1 ≤ (estR a b).1.2 ∧ (a.length : Int) % (estR a b).1.2 = 0 ∧ (estR a b).1.2 ≤ 64 ∧
    (((estR a b).1.1 = 1 ∧ (estR a b).1.2 = 1) ↔ a = b) ∧ a.length ≤ 64 := by
  unfold estR at h ⊢
  cases hc : (okB a && okB b && decide (a.length = b.length)) with
  | false => rw [hc] at h; simp at h
  | true =>
    simp only [Bool.and_eq_true, decide_eq_true_eq] at hc
    obtain ⟨⟨ka, kb⟩, hab⟩ := hc
    have hl := okB_spec ka
    have hs := sameL_le a b
    have hfull := sameL_full hab
    simp only [if_true]
    generalize hn : sameL a b = n at *
    generalize hm : a.length = m at *
    have g0 : 0 < Nat.gcd n m := Nat.gcd_pos_of_pos_right _ (by omega)
    have hg : n = m → Nat.gcd n m = m := by rintro rfl; exact Nat.gcd_self n
    obtain ⟨p, hp⟩ := Nat.gcd_dvd_left n m
    obtain ⟨q, hq⟩ := Nat.gcd_dvd_right n m
    generalize Nat.gcd n m = g at *
    have e1 : n / g = p := by rw [hp]; exact Nat.mul_div_cancel_left p g0
    have e2 : m / g = q := by rw [hq]; exact Nat.mul_div_cancel_left q g0
    rw [e1, e2]
    have q1 : 1 ≤ q := by rcases Nat.eq_zero_or_pos q with h | h; · subst h; simp at hq; omega
                          · exact h
    have pq : p ≤ q := by
      rcases Nat.lt_or_ge q p with h | h
      · have := (Nat.mul_lt_mul_left g0).2 h; omega
      · exact h
    have qm : q ≤ m := by rw [hq]; exact Nat.le_mul_of_pos_left q g0
    refine ⟨by omega, by omega, by omega, ?_, by omega, ?_, by omega⟩
    · have : m % q = 0 := by rw [hq]; exact Nat.mul_mod_left g q
      omega
    · rw [← hfull]
      constructor
      · rintro ⟨h1, h2⟩
        have : p = q := by omega
        rw [hp, hq, this]
      · intro h
        have hpq : p = q := Nat.eq_of_mul_eq_mul_left g0 (by omega)
        have hgm := hg h
        have : g * q = g * 1 := by rw [← hq, hgm, Nat.mul_one]
        have := Nat.eq_of_mul_eq_mul_left g0 this
        omega

set_option maxRecDepth 100000 in
theorem estimates_spec (a b : List Int) (va vb : Value) (h : Heap) (a0 : Arr h va (ints a)) (b0 : Arr h vb (ints b)) (ha : a.length ≤ 140737488351232) (hb : b.length ≤ 140737488351232) (ht : TabH h) :
    SpecR Tryd.prog 6 [va, vb] h fun r h' => r = .bool true ∧ Own h [] h' := by
  refine Spec.enter Tryd.func6 rfl Tryd.ntmps6 (by kernel_rfl) ?_
  have la : (ints a).length = a.length := by simp
  have lb : (ints b).length = b.length := by simp
  refine CallVC.ret (head_spec h ht) ?_
  rintro _ h1 ⟨rfl, o1⟩
  by_cases ha1 : 100 < a.length
  · refine StillVC.run (StillVC.lenAn (a0.ext o1.ext) (by assumption) sl23 ?_)
    refine Br.dec (fun c21 => ?_) (fun hc => absurd (by omega) hc)
    refine Br.tt ?_
    refine RetVC.one rfl ?_
    exact ⟨rfl, o1⟩
  by_cases hb1 : 100 < b.length
  · refine StillVC.run (StillVC.lenAn (a0.ext o1.ext) (by assumption) sl23 ?_)
    refine Br.dec (fun hc => absurd hc (by omega)) (fun c21 => ?_)
    refine StillVC.run (StillVC.lenAn (b0.ext o1.ext) (by assumption) sl23 ?_)
    refine Br.dec (fun c23 => ?_) (fun hc => absurd (by omega) hc)
    refine RetVC.one rfl ?_
    exact ⟨rfl, o1⟩
  refine StillVC.run (StillVC.lenAn (a0.ext o1.ext) (by assumption) sl23 ?_)
  refine Br.dec (fun hc => absurd hc (by omega)) (fun c31 => ?_)
  refine StillVC.run (StillVC.lenAn (b0.ext o1.ext) (by assumption) sl23 ?_)
  refine Br.dec (fun hc => absurd hc (by omega)) (fun c33 => ?_)
  refine CallVC.ret (estimate_spec a b va vb _ (a0.ext o1.ext) (b0.ext o1.ext) (by omega) (by omega)) ?_
  rintro _ h2 ⟨rfl, oc⟩
  have o2 := o1.ext' oc
  clear oc o1
  have hsy := estR_symm a b
  cases hc : (okB a && okB b && decide (a.length = b.length)) with
  | false =>
    have hR : estR a b = ((0, 0), 1) := by simp [estR, hc]
    rw [hR]
    rw [hR] at hsy
    (refine RunVC.alloc o2 ty31 ?_; intro b50 m50 o50)
    (refine RunVC.storeL o50 0 rfl ty31 rfl (by decide) (And.intro ⟨rfl, rfl⟩ ?_); intro m51 o51)
    refine CallVC.ret (estimate_spec b a vb va _ (b0.ext o51.ext) (a0.ext o51.ext) (by omega) (by omega)) ?_
    rintro _ h3 ⟨rfl, oc⟩
    rw [hsy]
    have o3 := o51.ext' oc
    clear oc o50 o51 o2
    (refine RunVC.alloc o3 ty31 ?_; intro b60 m60 o60)
    (refine RunVC.storeL o60 1 rfl ty31 rfl (by decide) (And.intro ⟨rfl, rfl⟩ ?_); intro m61 o61)
    refine Br.tt ?_
    refine Br.tt ?_
    refine Br.tt ?_
    refine Br.tt ?_
    refine StillVC.run (StillVC.loadON o61 0 rfl ty31 rfl rfl rfl ?_)
    refine StillVC.run (StillVC.buildK st31 ?_)
    refine StillVC.run (StillVC.eqS pl31 rfl rfl rfl rfl ?_)
    refine RetVC.one rfl ?_
    exact ⟨rfl, o61.sel [] rfl⟩
  | true =>
    have hR : (estR a b).2 = 0 := by simp [estR, hc]
    obtain ⟨f1, f2, f3, f4, f5, f6, f7⟩ := est_facts hR
    generalize estR a b = E at *
    obtain ⟨⟨n, d⟩, e⟩ := E
    simp only at f1 f2 f3 f4 f5 f6 hR
    subst hR
    (refine RunVC.alloc o2 ty31 ?_; intro b50 m50 o50)
    (refine RunVC.storeL o50 0 rfl ty31 rfl (by decide) (And.intro ⟨rfl, rfl⟩ ?_); intro m51 o51)
    refine CallVC.ret (estimate_spec b a vb va _ (b0.ext o51.ext) (a0.ext o51.ext) (by omega) (by omega)) ?_
    rintro _ h3 ⟨rfl, oc⟩
    rw [hsy]
    have o3 := o51.ext' oc
    clear oc o50 o51 o2
    (refine RunVC.alloc o3 ty31 ?_; intro b60 m60 o60)
    (refine RunVC.storeL o60 1 rfl ty31 rfl (by decide) (And.intro ⟨rfl, rfl⟩ ?_); intro m61 o61)
    refine Br.ndec (fun hc => absurd (by first | omega | assumption | decide) hc) (fun c62 => ?_)
    refine StillVC.run (StillVC.buildK st31 ?_)
    refine And.intro rfl ?_
    refine And.intro rfl ?_
    (refine RunVC.alloc o61 ty31 ?_; intro b64 m64 o64)
    (refine RunVC.storeL o64 2 rfl ty31 rfl (by decide) (And.intro ⟨rfl, rfl⟩ ?_); intro m65 o65)
    refine DrawVC.intro [0, 1, 2, 3, 4, 5, 8, 9, 10, 11, 13, 14, 15, 16, 18, 19, 20, 21, 23, 25, 26, 27, 28, 29, 30, 32, 33, 34, 35, 38, 39, 40, 42, 43, 44] [6, 7, 12, 17, 22, 24, 31, 36, 37] [] [0, 1, 2, 3, 4, 5, 6, 7, 8, 9, 10, 11, 12, 13, 14, 15, 16, 17, 18, 19, 20, 21, 22, 23, 24, 25, 26, 27, 28, 29, 30, 31, 32, 33, 34, 35, 36, 37, 38, 39, 40, 41, 42, 43, 44] mixed (by kernel_rfl) rfl (fun _ _ _ _ h => h) ?_
    refine Br.tt ?_
    refine Br.dec (fun c66 => ?_) (fun hc => absurd (by omega) hc)
    refine StillVC.loadON o65 0 rfl ty31 rfl rfl rfl ?_
    refine StillVC.loadON o65 1 rfl ty31 rfl rfl rfl ?_
    refine StillVC.eqS pl31 rfl rfl rfl rfl ?_
    refine Br.ttE (by simp; done) ?_
    refine StillVC.fieldAddr st31 rfl rfl rfl ?_
    refine StillVC.loadO o65 0 rfl ty3 rfl rfl ?_
    refine Br.dec (fun c73 => ?_) (fun hc => absurd (by omega) hc)
    refine StillVC.fieldAddr st31 rfl rfl rfl ?_
    refine StillVC.loadO o65 0 rfl ty3 rfl rfl ?_
    refine Br.dec (fun c76 => ?_) (fun hc => absurd (by omega) hc)
    refine StillVC.fieldAddr st31 rfl rfl rfl ?_
    refine StillVC.loadO o65 0 rfl ty3 rfl rfl ?_
    refine StillVC.fieldAddr st31 rfl rfl rfl ?_
    refine StillVC.loadO o65 0 rfl ty3 rfl rfl ?_
    refine Br.dec (fun c81 => ?_) (fun hc => absurd (by omega) hc)
    refine StillVC.lenAn (a0.ext o65.ext) (by assumption) sl23 ?_
    refine StillVC.fieldAddr st31 rfl rfl rfl ?_
    refine StillVC.loadO o65 0 rfl ty3 rfl rfl ?_
    refine StillVC.remE rfl rfl (by omega) (by omega) ?_
    refine Br.dec (fun c86 => ?_) (fun hc => absurd (by omega) hc)
    refine StillVC.loadON o65 0 rfl ty31 rfl rfl rfl ?_
    refine StillVC.loadON o65 2 rfl ty31 rfl rfl rfl ?_
    refine StillVC.eqS pl31 rfl rfl rfl rfl ?_
    refine CallVC.ret (refInts_spec a b va vb _ (a0.ext o65.ext) (b0.ext o65.ext) (by omega)) ?_
    rintro _ h4 ⟨rfl, oc⟩
    have o4 := o65.ext' oc
    clear o65 o3
    refine And.intro oc.ext ?_
    refine StillVC.eqB bool4 rfl rfl ?_
    refine RetVC.one rfl ?_
    refine ⟨congrArg _ (decide_eq_true ?_), o4.sel [] rfl⟩
    rw [Bool.eq_iff_iff]
    simpa using f6

end Go.Proofs.YtmehgkkpabbmcaaDoor
