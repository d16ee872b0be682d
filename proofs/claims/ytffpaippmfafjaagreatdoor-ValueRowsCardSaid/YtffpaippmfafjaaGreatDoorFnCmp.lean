/-
  The order of values: Compare, CompareRows, and the reference's.
-/
import Derived.Test.YtffpaippmfafjaaGreatDoorStructs
import Derived.Test.YtffpaippmfafjaaGreatDoorFnOrdP
import Derived.Test.YtffpaippmfafjaaGreatDoorFnVal
namespace Go.Proofs.YtffpaippmfafjaaGreatDoor
open Go

set_option maxRecDepth 100000 in
theorem orderI_spec (a b : Int) (h : Heap) : SpecR Tryz.prog 35 [.int .i64 a, .int .i64 b] h fun r h' => r = .int .i64 (cmpI a b) ∧ Own h [] h' := by
  have o0 := Own.refl h
  unfold cmpI
  refine Spec.enter Tryz.func35 rfl Tryz.ntmps35 (by kernel_rfl) ?_
  by_cases h1 : a < b
  · rw [if_pos h1]
    refine Br.dec (fun c10 => ?_) (fun hc => absurd (by omega) hc)
    refine RetVC.one rfl ?_
    exact ⟨rfl, o0⟩
  · rw [if_neg h1]
    by_cases h2 : b < a
    · rw [if_pos h2]
      refine Br.dec (fun hc => absurd hc (by omega)) (fun c20 => ?_)
      refine Br.dec (fun c21 => ?_) (fun hc => absurd (by omega) hc)
      refine RetVC.one rfl ?_
      exact ⟨rfl, o0⟩
    · rw [if_neg h2]
      refine Br.dec (fun hc => absurd hc (by omega)) (fun c30 => ?_)
      refine Br.dec (fun hc => absurd hc (by omega)) (fun c31 => ?_)
      refine RetVC.one rfl ?_
      exact ⟨rfl, o0⟩

theorem gtr_cmp (a b : List UInt8) : (!(Op.bytesLess a b || a == b)) = decide (cmpS a b = 1) := by
  have h1 := cmpS_rng a b
  have h2 := cmpS_zero a b
  rw [less_cmp]
  by_cases he : a = b
  · subst he
    have : cmpS a a = 0 := h2.2 rfl
    simp [this]
  · have hne : (a == b) = false := beq_eq_false_iff_ne.2 he
    have h0 : cmpS a b ≠ 0 := fun e => he (h2.1 e)
    rw [hne, Bool.or_false]
    rcases h1 with h | h | h
    · simp [h]
    · exact absurd h h0
    · simp [h]

set_option maxRecDepth 100000 in
theorem orderS_spec (a b : List UInt8) (h : Heap) : SpecR Tryz.prog 36 [.string ⟨⟨a⟩⟩, .string ⟨⟨b⟩⟩] h fun r h' => r = .int .i64 (cmpS a b) ∧ Own h [] h' := by
  have o0 := Own.refl h
  have hl := less_cmp a b
  have hg := gtr_cmp a b
  refine Spec.enter Tryz.func36 rfl Tryz.ntmps36 (by kernel_rfl) ?_
  rcases cmpS_rng a b with hr | hr | hr
  · rw [hr] at hl hg ⊢
    replace hl : Op.bytesLess a b = true := by simpa using hl
    refine StillVC.run (StillVC.strLss rfl rfl ?_)
    refine Br.ttE (by assumption) ?_
    refine RetVC.one rfl ?_
    exact ⟨rfl, o0⟩
  · rw [hr] at hl hg ⊢
    replace hl : Op.bytesLess a b = false := by simpa using hl
    replace hg : (!(Op.bytesLess a b || a == b)) = false := by simpa using hg
    refine StillVC.run (StillVC.strLss rfl rfl ?_)
    refine Br.ffE (by assumption) ?_
    refine StillVC.run (StillVC.strGtr rfl rfl ?_)
    refine Br.ffE (by assumption) ?_
    refine RetVC.one rfl ?_
    exact ⟨rfl, o0⟩
  · rw [hr] at hl hg ⊢
    replace hl : Op.bytesLess a b = false := by simpa using hl
    replace hg : (!(Op.bytesLess a b || a == b)) = true := by simpa using hg
    refine StillVC.run (StillVC.strLss rfl rfl ?_)
    refine Br.ffE (by assumption) ?_
    refine StillVC.run (StillVC.strGtr rfl rfl ?_)
    refine Br.ttE (by assumption) ?_
    refine RetVC.one rfl ?_
    exact ⟨rfl, o0⟩

set_option maxHeartbeats 4000000 in
set_option maxRecDepth 100000 in
theorem compare_spec (k n : Int) (t : List UInt8) (k' n' : Int) (t' : List UInt8) (h : Heap) :
    SpecR Tryz.prog 19 [valV k n t, valV k' n' t'] h fun r h' => r = .int .i64 (cmpV k n t k' n' t') ∧ Own h [] h' := by
  have o0 := Own.refl h
  show SpecR Tryz.prog 19 [.agg ⟨[.int .i64 k, .int .i64 n, .string ⟨⟨t⟩⟩]⟩, .agg ⟨[.int .i64 k', .int .i64 n', .string ⟨⟨t'⟩⟩]⟩] h _
  unfold cmpV
  refine Spec.enter Tryz.func19 rfl Tryz.ntmps19 (by kernel_rfl) ?_
  (refine RunVC.boxO o0 rfl ?_; intro b10 m10 o10)
  (refine RunVC.boxO o10 rfl ?_; intro b11 m11 o11)
  refine StillVC.run (StillVC.fieldAddr st23 rfl rfl rfl ?_)
  refine StillVC.run (StillVC.loadO o11 0 rfl ty3 rfl rfl ?_)
  refine StillVC.run (StillVC.fieldAddr st23 rfl rfl rfl ?_)
  refine StillVC.run (StillVC.loadO o11 1 rfl ty3 rfl rfl ?_)
  refine CallVC.ret (orderI_spec k k' _) ?_
  rintro _ h1 ⟨rfl, oa⟩
  have o1 := oa.thenE (by assumption)
  clear oa
  by_cases hk : cmpI k k' = 0
  · rw [if_neg (fun h => h hk)]
    refine Br.ndec (fun hc => absurd (by first | omega | assumption | decide | exact rfl) hc) (fun c20 => ?_)
    refine StillVC.run (StillVC.fieldAddr st23 rfl rfl rfl ?_)
    refine StillVC.run (StillVC.loadO o1 0 rfl ty3 rfl rfl ?_)
    refine StillVC.run (StillVC.fieldAddr st23 rfl rfl rfl ?_)
    refine StillVC.run (StillVC.loadO o1 1 rfl ty3 rfl rfl ?_)
    refine CallVC.ret (orderI_spec n n' _) ?_
    rintro _ h2 ⟨rfl, ob⟩
    have o2 := ob.thenE (by assumption)
    clear ob
    by_cases hn : cmpI n n' = 0
    · rw [if_neg (fun h => h hn)]
      refine Br.ndec (fun hc => absurd (by first | omega | assumption | decide | exact rfl) hc) (fun c40 => ?_)
      refine StillVC.run (StillVC.fieldAddr st23 rfl rfl rfl ?_)
      refine StillVC.run (StillVC.loadO o2 0 rfl ty9 rfl rfl ?_)
      refine StillVC.run (StillVC.fieldAddr st23 rfl rfl rfl ?_)
      refine StillVC.run (StillVC.loadO o2 1 rfl ty9 rfl rfl ?_)
      refine CallVC.ret (orderS_spec t t' _) ?_
      rintro _ h3 ⟨rfl, oc⟩
      have o3 := oc.thenE (by assumption)
      refine RetVC.one rfl ?_
      exact ⟨rfl, Own.sel (by assumption) [] rfl⟩
    · rw [if_pos hn]
      refine Br.ndec (fun c80 => ?_) (fun hc => absurd hc (by first | omega | assumption | decide | exact rfl))
      refine RetVC.one rfl ?_
      exact ⟨rfl, Own.sel (by assumption) [] rfl⟩
  · rw [if_pos hk]
    refine Br.ndec (fun c100 => ?_) (fun hc => absurd hc (by first | omega | assumption | decide | exact rfl))
    refine RetVC.one rfl ?_
    exact ⟨rfl, Own.sel (by assumption) [] rfl⟩

set_option maxRecDepth 100000 in
theorem sign_spec (a b : Int) (h : Heap) : SpecR Tryz.prog 37 [.int .i64 a, .int .i64 b] h fun r h' => r = .int .i64 (cmpI a b) ∧ Own h [] h' := by
  have o0 := Own.refl h
  unfold cmpI
  refine Spec.enter Tryz.func37 rfl Tryz.ntmps37 (by kernel_rfl) ?_
  by_cases h1 : a < b
  · rw [if_pos h1]
    refine Br.dec (fun c10 => ?_) (fun hc => absurd (by omega) hc)
    refine RetVC.one rfl ?_
    exact ⟨rfl, o0⟩
  · rw [if_neg h1]
    by_cases h2 : b < a
    · rw [if_pos h2]
      refine Br.dec (fun hc => absurd hc (by omega)) (fun c20 => ?_)
      refine Br.dec (fun c21 => ?_) (fun hc => absurd (by omega) hc)
      refine RetVC.one rfl ?_
      exact ⟨rfl, o0⟩
    · rw [if_neg h2]
      refine Br.dec (fun hc => absurd hc (by omega)) (fun c30 => ?_)
      refine Br.dec (fun hc => absurd hc (by omega)) (fun c31 => ?_)
      refine RetVC.one rfl ?_
      exact ⟨rfl, o0⟩

theorem cmpI_self (a : Int) : cmpI a a = 0 := by
  rcases cmpI_cases a a with ⟨h, _⟩ | ⟨_, h⟩ | ⟨h, _⟩ <;> omega
theorem cmpI_ne {a b : Int} (h : a ≠ b) : cmpI a b ≠ 0 := by
  rcases cmpI_cases a b with ⟨_, e⟩ | ⟨e, _⟩ | ⟨_, e⟩ <;> omega

set_option maxHeartbeats 4000000 in
set_option maxRecDepth 100000 in
theorem rcompare_spec (k n : Int) (t : List UInt8) (k' n' : Int) (t' : List UInt8) (h : Heap) :
    SpecR Tryz.prog 20 [valV k n t, valV k' n' t'] h fun r h' => r = .int .i64 (cmpV k n t k' n' t') ∧ Own h [] h' := by
  have o0 := Own.refl h
  have hl := less_cmp t t'
  have hg := gtr_cmp t t'
  show SpecR Tryz.prog 20 [.agg ⟨[.int .i64 k, .int .i64 n, .string ⟨⟨t⟩⟩]⟩, .agg ⟨[.int .i64 k', .int .i64 n', .string ⟨⟨t'⟩⟩]⟩] h _
  unfold cmpV
  refine Spec.enter Tryz.func20 rfl Tryz.ntmps20 (by kernel_rfl) ?_
  by_cases hk : k = k'
  · subst hk
    rw [if_neg (fun h => h (cmpI_self k))]
    by_cases hn : n = n'
    · subst hn
      rw [if_neg (fun h => h (cmpI_self n))]
      rcases cmpS_rng t t' with hr | hr | hr
      · rw [hr] at hl hg ⊢
        replace hl : Op.bytesLess t t' = true := by simpa using hl
        (refine RunVC.boxO o0 rfl ?_; intro b10 m10 o10)
        (refine RunVC.boxO o10 rfl ?_; intro b11 m11 o11)
        refine StillVC.run (StillVC.fieldAddr st23 rfl rfl rfl ?_)
        refine StillVC.run (StillVC.loadO o11 0 rfl ty3 rfl rfl ?_)
        refine StillVC.run (StillVC.fieldAddr st23 rfl rfl rfl ?_)
        refine StillVC.run (StillVC.loadO o11 1 rfl ty3 rfl rfl ?_)
        refine Br.ndec (fun hc => absurd (by first | omega | assumption | decide | exact rfl) hc) (fun c16 => ?_)
        refine StillVC.run (StillVC.fieldAddr st23 rfl rfl rfl ?_)
        refine StillVC.run (StillVC.loadO o11 0 rfl ty3 rfl rfl ?_)
        refine StillVC.run (StillVC.fieldAddr st23 rfl rfl rfl ?_)
        refine StillVC.run (StillVC.loadO o11 1 rfl ty3 rfl rfl ?_)
        refine Br.ndec (fun hc => absurd (by first | omega | assumption | decide | exact rfl) hc) (fun c21 => ?_)
        refine StillVC.run (StillVC.fieldAddr st23 rfl rfl rfl ?_)
        refine StillVC.run (StillVC.loadO o11 0 rfl ty9 rfl rfl ?_)
        refine StillVC.run (StillVC.fieldAddr st23 rfl rfl rfl ?_)
        refine StillVC.run (StillVC.loadO o11 1 rfl ty9 rfl rfl ?_)
        refine StillVC.run (StillVC.strLss rfl rfl ?_)
        refine Br.ttE (by assumption) ?_
        refine RetVC.one rfl ?_
        exact ⟨rfl, Own.sel (by assumption) [] rfl⟩
      · rw [hr] at hl hg ⊢
        replace hl : Op.bytesLess t t' = false := by simpa using hl
        replace hg : (!(Op.bytesLess t t' || t == t')) = false := by simpa using hg
        (refine RunVC.boxO o0 rfl ?_; intro b40 m40 o40)
        (refine RunVC.boxO o40 rfl ?_; intro b41 m41 o41)
        refine StillVC.run (StillVC.fieldAddr st23 rfl rfl rfl ?_)
        refine StillVC.run (StillVC.loadO o41 0 rfl ty3 rfl rfl ?_)
        refine StillVC.run (StillVC.fieldAddr st23 rfl rfl rfl ?_)
        refine StillVC.run (StillVC.loadO o41 1 rfl ty3 rfl rfl ?_)
        refine Br.ndec (fun hc => absurd (by first | omega | assumption | decide | exact rfl) hc) (fun c46 => ?_)
        refine StillVC.run (StillVC.fieldAddr st23 rfl rfl rfl ?_)
        refine StillVC.run (StillVC.loadO o41 0 rfl ty3 rfl rfl ?_)
        refine StillVC.run (StillVC.fieldAddr st23 rfl rfl rfl ?_)
        refine StillVC.run (StillVC.loadO o41 1 rfl ty3 rfl rfl ?_)
        refine Br.ndec (fun hc => absurd (by first | omega | assumption | decide | exact rfl) hc) (fun c51 => ?_)
        refine StillVC.run (StillVC.fieldAddr st23 rfl rfl rfl ?_)
        refine StillVC.run (StillVC.loadO o41 0 rfl ty9 rfl rfl ?_)
        refine StillVC.run (StillVC.fieldAddr st23 rfl rfl rfl ?_)
        refine StillVC.run (StillVC.loadO o41 1 rfl ty9 rfl rfl ?_)
        refine StillVC.run (StillVC.strLss rfl rfl ?_)
        refine Br.ffE (by assumption) ?_
        refine StillVC.run (StillVC.fieldAddr st23 rfl rfl rfl ?_)
        refine StillVC.run (StillVC.loadO o41 0 rfl ty9 rfl rfl ?_)
        refine StillVC.run (StillVC.fieldAddr st23 rfl rfl rfl ?_)
        refine StillVC.run (StillVC.loadO o41 1 rfl ty9 rfl rfl ?_)
        refine StillVC.run (StillVC.strGtr rfl rfl ?_)
        refine Br.ffE (by assumption) ?_
        refine RetVC.one rfl ?_
        exact ⟨rfl, Own.sel (by assumption) [] rfl⟩
      · rw [hr] at hl hg ⊢
        replace hl : Op.bytesLess t t' = false := by simpa using hl
        replace hg : (!(Op.bytesLess t t' || t == t')) = true := by simpa using hg
        (refine RunVC.boxO o0 rfl ?_; intro b80 m80 o80)
        (refine RunVC.boxO o80 rfl ?_; intro b81 m81 o81)
        refine StillVC.run (StillVC.fieldAddr st23 rfl rfl rfl ?_)
        refine StillVC.run (StillVC.loadO o81 0 rfl ty3 rfl rfl ?_)
        refine StillVC.run (StillVC.fieldAddr st23 rfl rfl rfl ?_)
        refine StillVC.run (StillVC.loadO o81 1 rfl ty3 rfl rfl ?_)
        refine Br.ndec (fun hc => absurd (by first | omega | assumption | decide | exact rfl) hc) (fun c86 => ?_)
        refine StillVC.run (StillVC.fieldAddr st23 rfl rfl rfl ?_)
        refine StillVC.run (StillVC.loadO o81 0 rfl ty3 rfl rfl ?_)
        refine StillVC.run (StillVC.fieldAddr st23 rfl rfl rfl ?_)
        refine StillVC.run (StillVC.loadO o81 1 rfl ty3 rfl rfl ?_)
        refine Br.ndec (fun hc => absurd (by first | omega | assumption | decide | exact rfl) hc) (fun c91 => ?_)
        refine StillVC.run (StillVC.fieldAddr st23 rfl rfl rfl ?_)
        refine StillVC.run (StillVC.loadO o81 0 rfl ty9 rfl rfl ?_)
        refine StillVC.run (StillVC.fieldAddr st23 rfl rfl rfl ?_)
        refine StillVC.run (StillVC.loadO o81 1 rfl ty9 rfl rfl ?_)
        refine StillVC.run (StillVC.strLss rfl rfl ?_)
        refine Br.ffE (by assumption) ?_
        refine StillVC.run (StillVC.fieldAddr st23 rfl rfl rfl ?_)
        refine StillVC.run (StillVC.loadO o81 0 rfl ty9 rfl rfl ?_)
        refine StillVC.run (StillVC.fieldAddr st23 rfl rfl rfl ?_)
        refine StillVC.run (StillVC.loadO o81 1 rfl ty9 rfl rfl ?_)
        refine StillVC.run (StillVC.strGtr rfl rfl ?_)
        refine Br.ttE (by assumption) ?_
        refine RetVC.one rfl ?_
        exact ⟨rfl, Own.sel (by assumption) [] rfl⟩
    · rw [if_pos (cmpI_ne hn)]
      (refine RunVC.boxO o0 rfl ?_; intro b120 m120 o120)
      (refine RunVC.boxO o120 rfl ?_; intro b121 m121 o121)
      refine StillVC.run (StillVC.fieldAddr st23 rfl rfl rfl ?_)
      refine StillVC.run (StillVC.loadO o121 0 rfl ty3 rfl rfl ?_)
      refine StillVC.run (StillVC.fieldAddr st23 rfl rfl rfl ?_)
      refine StillVC.run (StillVC.loadO o121 1 rfl ty3 rfl rfl ?_)
      refine Br.ndec (fun hc => absurd (by first | omega | assumption | decide | exact rfl) hc) (fun c126 => ?_)
      refine StillVC.run (StillVC.fieldAddr st23 rfl rfl rfl ?_)
      refine StillVC.run (StillVC.loadO o121 0 rfl ty3 rfl rfl ?_)
      refine StillVC.run (StillVC.fieldAddr st23 rfl rfl rfl ?_)
      refine StillVC.run (StillVC.loadO o121 1 rfl ty3 rfl rfl ?_)
      refine Br.ndec (fun c131 => ?_) (fun hc => absurd hc (by first | omega | assumption | decide | exact rfl))
      refine StillVC.run (StillVC.fieldAddr st23 rfl rfl rfl ?_)
      refine StillVC.run (StillVC.loadO o121 0 rfl ty3 rfl rfl ?_)
      refine StillVC.run (StillVC.fieldAddr st23 rfl rfl rfl ?_)
      refine StillVC.run (StillVC.loadO o121 1 rfl ty3 rfl rfl ?_)
      refine CallVC.ret (sign_spec n n' _) ?_
      rintro _ h1 ⟨rfl, oa⟩
      have o1 := oa.thenE (by assumption)
      refine RetVC.one rfl ?_
      exact ⟨rfl, Own.sel (by assumption) [] rfl⟩
  · rw [if_pos (cmpI_ne hk)]
    (refine RunVC.boxO o0 rfl ?_; intro b160 m160 o160)
    (refine RunVC.boxO o160 rfl ?_; intro b161 m161 o161)
    refine StillVC.run (StillVC.fieldAddr st23 rfl rfl rfl ?_)
    refine StillVC.run (StillVC.loadO o161 0 rfl ty3 rfl rfl ?_)
    refine StillVC.run (StillVC.fieldAddr st23 rfl rfl rfl ?_)
    refine StillVC.run (StillVC.loadO o161 1 rfl ty3 rfl rfl ?_)
    refine Br.ndec (fun c166 => ?_) (fun hc => absurd hc (by first | omega | assumption | decide | exact rfl))
    refine StillVC.run (StillVC.fieldAddr st23 rfl rfl rfl ?_)
    refine StillVC.run (StillVC.loadO o161 0 rfl ty3 rfl rfl ?_)
    refine StillVC.run (StillVC.fieldAddr st23 rfl rfl rfl ?_)
    refine StillVC.run (StillVC.loadO o161 1 rfl ty3 rfl rfl ?_)
    refine CallVC.ret (sign_spec k k' _) ?_
    rintro _ h1 ⟨rfl, oa⟩
    have o1 := oa.thenE (by assumption)
    refine RetVC.one rfl ?_
    exact ⟨rfl, Own.sel (by assumption) [] rfl⟩

end Go.Proofs.YtffpaippmfafjaaGreatDoor
