/-
  The reference of chapter 1: divisors, makings, validity, calculations and comparisons.
-/
import Derived.Test.YtemijanhigjmmaaDoorStructs
import Derived.Test.YtemijanhigjmmaaDoorFnRatPack2
namespace Go.Proofs.YtemijanhigjmmaaDoor
open Go

set_option maxRecDepth 100000 in
theorem gcd_spec (a b : Nat) (h : Heap) (ha : a < 18446744073709551616) (hb : b < 18446744073709551616) :
    SpecR Tryd.prog 12 [.int .u64 a, .int .u64 b] h fun r h' => r = .int .u64 (Nat.gcd a b : Nat) ∧ Own h [] h' := by
  refine Spec.enter Tryd.func12 rfl Tryd.ntmps12 (by kernel_rfl) ?_
  have o0 := Own.refl h
  refine LoopVC.intro [0, 1, 5, 6, 7, 8, 9, 10] [0, 1] (fun vs hh => hh = h ∧ ∃ (x y : Nat), x < 18446744073709551616 ∧ y < 18446744073709551616 ∧ vs = [.int .u64 x, .int .u64 y] ∧ Nat.gcd x y = Nat.gcd a b) (fun vs _ => match vs with | [_, .int _ y] => y.toNat | _ => 0) ?_ ?_
  · exact ⟨rfl, a, b, ha, hb, rfl, rfl⟩
  · rintro vs junk h3 ⟨rfl, x, y, hx, hy, rfl, hg⟩
    by_cases hy0 : y = 0
    · subst hy0
      refine Br.ff ?_
      refine RetVC.one rfl ?_
      rw [Nat.gcd_zero_right] at hg
      exact ⟨by rw [hg], o0⟩
    · refine Br.dec (fun c40 => ?_) (fun hc => absurd (by omega) hc)
      refine DrawVC.intro [0, 1, 2, 3, 4, 5] [] [] [0, 1, 2, 3, 4, 5] mixed (by kernel_rfl) rfl (fun _ _ _ _ h => h) ?_
      refine StillVC.remE rfl rfl (by omega) (by omega) ?_
      refine ⟨rfl, ?_⟩
      have hlt2 : x % y < y := Nat.mod_lt _ (by omega)
      refine ⟨⟨rfl, y, x % y, by omega, by omega, rfl, ?_⟩, ?_⟩
      · rw [← hg, Nat.gcd_comm y, ← Nat.gcd_rec, Nat.gcd_comm]
      · show (((x : Int) % (y : Int)).toNat) < ((y : Int).toNat)
        omega

set_option maxRecDepth 100000 in
theorem size_spec (n : Int) (h : Heap) (lo : -9223372036854775808 ≤ n) (hi : n ≤ 9223372036854775807) :
    SpecR Tryd.prog 43 [.int .i64 n] h fun r h' => r = .int .u64 n.natAbs ∧ Own h [] h' := by
  refine Spec.enter Tryd.func43 rfl Tryd.ntmps43 (by kernel_rfl) ?_
  have o0 := Own.refl h
  by_cases hn : n < 0
  · refine Br.dec (fun c10 => ?_) (fun hc => absurd (by omega) hc)
    refine StillVC.run (StillVC.convI rfl int3 int28 ?_)
    refine Ar.u64w ?_
    refine Ar.u64w ?_
    refine RetVC.one rfl ?_
    refine ⟨?_, o0⟩
    congr 1
    omega
  · refine Br.dec (fun hc => absurd hc (by omega)) (fun c10 => ?_)
    refine StillVC.run (StillVC.convI rfl int3 int28 ?_)
    refine Ar.u64 (by omega) (by omega) ?_
    refine RetVC.one rfl ?_
    refine ⟨?_, o0⟩
    congr 1
    omega

set_option maxRecDepth 100000 in
theorem validR_spec (a : Int × Int) (h : Heap) (ha : i64P a) :
    SpecR Tryd.prog 28 [ratV a] h fun r h' => r = .bool (okP a) ∧ Own h [] h' := by
  obtain ⟨x, y⟩ := a
  obtain ⟨⟨x0, x1⟩, y0, y1⟩ := ha
  simp only at x0 x1 y0 y1
  have hok : okP (x, y) = decide (0 < y ∧ y ≤ 1000000000 ∧ x.natAbs ≤ 1000000000 ∧ Nat.gcd x.natAbs y.natAbs = 1) := rfl
  show SpecR Tryd.prog 28 [.agg ⟨[.int .i64 x, .int .i64 y]⟩] h _
  refine Spec.enter Tryd.func28 rfl Tryd.ntmps28 (by kernel_rfl) ?_
  have o0 := Own.refl h
  by_cases hy : 0 < y ∧ y ≤ 1000000000 ∧ x.natAbs ≤ 1000000000
  · obtain ⟨hy1, hy2, hx⟩ := hy
    (refine RunVC.boxO o0 rfl ?_; intro b10 m10 o10)
    refine DrawVC.intro [0, 2, 3, 4, 6, 7, 8, 9, 11, 12, 13, 14, 16, 17, 18, 19, 22, 26, 27, 28] [1, 5, 10, 15, 20, 23] [24, 25] [0, 1, 2, 3, 4, 5, 6, 7, 8, 9, 10, 11, 12, 13, 14, 15, 16, 17, 18, 19, 20, 22, 23, 21, 24, 25, 26, 27, 28] mixed (by kernel_rfl) rfl (fun _ _ _ _ h => h) ?_
    refine StillVC.fieldAddr st24 rfl rfl rfl ?_
    refine StillVC.loadO o10 0 rfl ty3 rfl rfl ?_
    refine Br.dec (fun c13 => ?_) (fun hc => absurd (by omega) hc)
    refine StillVC.fieldAddr st24 rfl rfl rfl ?_
    refine StillVC.loadO o10 0 rfl ty3 rfl rfl ?_
    refine Br.dec (fun c16 => ?_) (fun hc => absurd (by omega) hc)
    refine StillVC.fieldAddr st24 rfl rfl rfl ?_
    refine StillVC.loadO o10 0 rfl ty3 rfl rfl ?_
    refine Br.dec (fun c19 => ?_) (fun hc => absurd (by omega) hc)
    refine StillVC.fieldAddr st24 rfl rfl rfl ?_
    refine StillVC.loadO o10 0 rfl ty3 rfl rfl ?_
    refine Br.dec (fun c22 => ?_) (fun hc => absurd (by omega) hc)
    refine StillVC.fieldAddr st24 rfl rfl rfl ?_
    refine StillVC.loadO o10 0 rfl ty3 rfl rfl ?_
    refine StillVC.fieldAddr st24 rfl rfl rfl ?_
    refine StillVC.loadO o10 0 rfl ty3 rfl rfl ?_
    refine CallVC.ret (size_spec x _ x0 x1) ?_
    rintro _ h1 ⟨rfl, oa⟩
    have o1 := oa.thenE (by assumption)
    refine And.intro oa.ext ?_
    refine CallVC.ret (size_spec y _ y0 y1) ?_
    rintro _ h2 ⟨rfl, ob⟩
    have o2 := ob.thenE (by assumption)
    refine CallVC.ret (gcd_spec x.natAbs y.natAbs _ (by omega) (by omega)) ?_
    rintro _ h3 ⟨rfl, oc⟩
    have o3 := oc.thenE (by assumption)
    by_cases hg : Nat.gcd x.natAbs y.natAbs = 1
    · rw [hok, decide_eq_true (show 0 < y ∧ y ≤ 1000000000 ∧ x.natAbs ≤ 1000000000 ∧ Nat.gcd x.natAbs y.natAbs = 1 from ⟨hy1, hy2, hx, hg⟩)]
      refine RetVC.one rfl ?_
      exact ⟨congrArg Value.bool (decide_eq_true (by omega)), Own.sel (by assumption) [] rfl⟩
    · rw [hok, decide_eq_false (show ¬ (0 < y ∧ y ≤ 1000000000 ∧ x.natAbs ≤ 1000000000 ∧ Nat.gcd x.natAbs y.natAbs = 1) from fun hc => hg hc.2.2.2)]
      refine RetVC.one rfl ?_
      exact ⟨congrArg Value.bool (decide_eq_false (by omega)), Own.sel (by assumption) [] rfl⟩
  · rw [hok, decide_eq_false (show ¬ (0 < y ∧ y ≤ 1000000000 ∧ x.natAbs ≤ 1000000000 ∧ Nat.gcd x.natAbs y.natAbs = 1) from fun hc => hy ⟨hc.1, hc.2.1, hc.2.2.1⟩)]
    (refine RunVC.boxO o0 rfl ?_; intro b80 m80 o80)
    refine DrawVC.intro [0, 2, 3, 4, 6, 7, 8, 9, 11, 12, 13, 14, 16, 17, 18, 19, 22, 26, 27, 28] [1, 5, 10, 15, 20, 23] [24, 25] [0, 1, 2, 3, 4, 5, 6, 7, 8, 9, 10, 11, 12, 13, 14, 15, 16, 17, 18, 19, 20, 22, 23, 21, 24, 25, 26, 27, 28] mixed (by kernel_rfl) rfl (fun _ _ _ _ h => h) ?_
    refine StillVC.fieldAddr st24 rfl rfl rfl ?_
    refine StillVC.loadO o80 0 rfl ty3 rfl rfl ?_
    refine Br.dec (fun c83 => ?_) (fun c83 => ?_)
    refine StillVC.fieldAddr st24 rfl rfl rfl ?_
    refine StillVC.loadO o80 0 rfl ty3 rfl rfl ?_
    refine Br.dec (fun c86 => ?_) (fun c86 => ?_)
    refine StillVC.fieldAddr st24 rfl rfl rfl ?_
    refine StillVC.loadO o80 0 rfl ty3 rfl rfl ?_
    refine Br.dec (fun c89 => ?_) (fun c89 => ?_)
    refine StillVC.fieldAddr st24 rfl rfl rfl ?_
    refine StillVC.loadO o80 0 rfl ty3 rfl rfl ?_
    refine Br.dec (fun hc => absurd hc (by omega)) (fun c92 => ?_)
    refine RetVC.one rfl ?_
    rotate_left
    refine RetVC.one rfl ?_
    rotate_left
    refine RetVC.one rfl ?_
    rotate_left
    refine RetVC.one rfl ?_
    all_goals exact ⟨rfl, Own.sel (by assumption) [] rfl⟩

set_option maxRecDepth 100000 in
theorem ofR_spec (minus : Bool) (num den : Nat) (h : Heap) (hn : num < 18446744073709551616) (hd : den < 18446744073709551616) :
    SpecR Tryd.prog 42 [.bool minus, .int .u64 num, .int .u64 den] h fun r h' => r = ratE (if den = 0 then ((0, 0), 1) else reducedR minus num den) ∧ Own h [] h' := by
  refine Spec.enter Tryd.func42 rfl Tryd.ntmps42 (by kernel_rfl) ?_
  have o0 := Own.refl h
  by_cases h0 : den = 0
  · subst h0
    (refine RunVC.alloc o0 ty24 ?_; intro b10 m10 o10)
    refine Br.tt ?_
    refine StillVC.run (StillVC.buildK st24 ?_)
    (refine RunVC.storeL o10 0 rfl ty24 rfl (by decide) (And.intro ⟨rfl, rfl⟩ ?_); intro m12 o12)
    first | refine RetVC.cell2 rfl o12 0 rfl ty24 rfl rfl ?_ | refine RetVC.cell1 rfl o12 0 rfl ty24 rfl rfl ?_
    exact ⟨rfl, Own.sel (by assumption) [] rfl⟩
  · rw [if_neg h0]
    (refine RunVC.alloc o0 ty24 ?_; intro b20 m20 o20)
    refine Br.dec (fun hc => absurd hc (by omega)) (fun c21 => ?_)
    refine CallVC.ret (gcd_spec num den _ hn hd) ?_
    rintro _ h1 ⟨rfl, oc⟩
    have o1 := oc.thenE (by assumption)
    have hg0 : 0 < Nat.gcd num den := Nat.gcd_pos_of_pos_right _ (by omega)
    unfold reducedR
    generalize hN : num / Nat.gcd num den = N at *
    generalize hD : den / Nat.gcd num den = D at *
    have eN : (num : Int) / (Nat.gcd num den : Nat) = (N : Nat) := by rw [← hN, Int.natCast_ediv]
    have eD : (den : Int) / (Nat.gcd num den : Nat) = (D : Nat) := by rw [← hD, Int.natCast_ediv]
    have bN : N ≤ num := by rw [← hN]; exact Nat.div_le_self _ _
    have bD : D ≤ den := by rw [← hD]; exact Nat.div_le_self _ _
    generalize Nat.gcd num den = g at *
    refine StillVC.run (StillVC.quoE rfl rfl (by omega) (by omega) (by simp [IntKind.max, IntKind.signed, IntKind.bits]; omega) ?_)
    refine Br.dec (fun c31 => ?_) (fun c31 => ?_)
    refine Br.tt ?_
    refine StillVC.run (StillVC.buildK st24 ?_)
    (refine RunVC.storeL o1 0 rfl ty24 rfl (by decide) (And.intro ⟨rfl, rfl⟩ ?_); intro m33 o33)
    first | refine RetVC.cell2 rfl o33 0 rfl ty24 rfl rfl ?_ | refine RetVC.cell1 rfl o33 0 rfl ty24 rfl rfl ?_
    rotate_left
    refine StillVC.run (StillVC.quoE rfl rfl (by omega) (by omega) (by simp [IntKind.max, IntKind.signed, IntKind.bits]; omega) ?_)
    refine Br.dec (fun c35 => ?_) (fun c35 => ?_)
    refine StillVC.run (StillVC.buildK st24 ?_)
    (refine RunVC.storeL o1 0 rfl ty24 rfl (by decide) (And.intro ⟨rfl, rfl⟩ ?_); intro m37 o37)
    first | refine RetVC.cell2 rfl o37 0 rfl ty24 rfl rfl ?_ | refine RetVC.cell1 rfl o37 0 rfl ty24 rfl rfl ?_
    rotate_left
    refine StillVC.run (StillVC.quoE rfl rfl (by omega) (by omega) (by simp [IntKind.max, IntKind.signed, IntKind.bits]; omega) ?_)
    refine StillVC.run (StillVC.convI rfl int28 int3 ?_)
    refine Ar.i64 (by omega) (by omega) ?_
    refine Br.mk (fun c40 => ?_) (fun c40 => ?_)
    refine Ar.i64 (by omega) (by omega) ?_
    refine StillVC.run (StillVC.quoE rfl rfl (by omega) (by omega) (by simp [IntKind.max, IntKind.signed, IntKind.bits]; omega) ?_)
    refine StillVC.run (StillVC.convI rfl int28 int3 ?_)
    refine Ar.i64 (by omega) (by omega) ?_
    refine StillVC.run (StillVC.buildK st24 ?_)
    refine And.intro rfl ?_
    refine And.intro rfl ?_
    (refine RunVC.storeL o1 0 rfl ty24 rfl (by decide) (And.intro ⟨rfl, rfl⟩ ?_); intro m44 o44)
    first | refine RetVC.cell2 rfl o44 0 rfl ty24 rfl rfl ?_ | refine RetVC.cell1 rfl o44 0 rfl ty24 rfl rfl ?_
    rotate_left
    refine StillVC.run (StillVC.quoE rfl rfl (by omega) (by omega) (by simp [IntKind.max, IntKind.signed, IntKind.bits]; omega) ?_)
    refine StillVC.run (StillVC.convI rfl int28 int3 ?_)
    refine Ar.i64 (by omega) (by omega) ?_
    refine StillVC.run (StillVC.buildK st24 ?_)
    refine And.intro rfl ?_
    refine And.intro rfl ?_
    (refine RunVC.storeL o1 0 rfl ty24 rfl (by decide) (And.intro ⟨rfl, rfl⟩ ?_); intro m48 o48)
    first | refine RetVC.cell2 rfl o48 0 rfl ty24 rfl rfl ?_ | refine RetVC.cell1 rfl o48 0 rfl ty24 rfl rfl ?_
    · rw [if_neg (by omega), ‹minus = false›, eN, eD]
      exact ⟨rfl, Own.sel (by assumption) [] rfl⟩
    · rw [if_pos (by omega)]
      exact ⟨rfl, Own.sel (by assumption) [] rfl⟩
    · rw [if_pos (by omega)]
      exact ⟨rfl, Own.sel (by assumption) [] rfl⟩
    · rw [if_neg (by omega), ‹minus = true›, eN, eD, Int.zero_sub]
      exact ⟨rfl, Own.sel (by assumption) [] rfl⟩

set_option maxRecDepth 100000 in
theorem makeR_spec (num den : Int) (h : Heap) (n0 : -9223372036854775808 ≤ num) (n1 : num ≤ 9223372036854775807) (d0 : -9223372036854775808 ≤ den) (d1 : den ≤ 9223372036854775807) :
    SpecR Tryd.prog 21 [.int .i64 num, .int .i64 den] h fun r h' => r = ratE (ratioR num den) ∧ Own h [] h' := by
  refine Spec.enter Tryd.func21 rfl Tryd.ntmps21 (by kernel_rfl) ?_
  have o0 := Own.refl h
  (refine RunVC.alloc o0 ty24 ?_; intro b10 m10 o10)
  refine StillVC.run (StillVC.neB bool4 rfl rfl ?_)
  refine CallVC.ret (size_spec num _ n0 n1) ?_
  rintro _ h1 ⟨rfl, oa⟩
  have o1 := oa.thenE (by assumption)
  refine CallVC.ret (size_spec den _ d0 d1) ?_
  rintro _ h2 ⟨rfl, ob⟩
  have o2 := ob.thenE (by assumption)
  refine CallVC.ret (ofR_spec _ num.natAbs den.natAbs _ (by omega) (by omega)) ?_
  rintro _ h3 ⟨rfl, oc⟩
  have o3 := oc.thenE (by assumption)
  have e : (if den.natAbs = 0 then ((0, 0), 1) else reducedR (!decide (decide (num < 0) = decide (den < 0))) num.natAbs den.natAbs) = ratioR num den := by
    unfold ratioR
    by_cases hd : den = 0
    · rw [if_pos hd, if_pos (by omega)]
    · rw [if_neg hd, if_neg (by omega)]
  rw [e]
  generalize ratioR num den = R
  obtain ⟨⟨x, y⟩, z⟩ := R
  (refine RunVC.storeL o3 0 rfl ty24 rfl (by decide) (And.intro ⟨rfl, rfl⟩ ?_); intro m40 o40)
  first | refine RetVC.cell2 rfl o40 0 rfl ty24 rfl rfl ?_ | refine RetVC.cell1 rfl o40 0 rfl ty24 rfl rfl ?_
  exact ⟨rfl, Own.sel (by assumption) [] rfl⟩

set_option maxRecDepth 100000 in
theorem addRef_spec (a b : Int × Int) (h : Heap) (ha : i64P a) (hb : i64P b) :
    SpecR Tryd.prog 23 [ratV a, ratV b] h fun v h' => v = ratE (addR a b) ∧ Own h [] h' := by
  obtain ⟨a1, a2⟩ := a
  obtain ⟨b1, b2⟩ := b
  show SpecR Tryd.prog 23 [.agg ⟨[.int .i64 a1, .int .i64 a2]⟩, .agg ⟨[.int .i64 b1, .int .i64 b2]⟩] h fun v h' => v = ratE (addR (a1, a2) (b1, b2)) ∧ Own h [] h'
  refine Spec.enter Tryd.func23 rfl Tryd.ntmps23 (by kernel_rfl) ?_
  have o0 := Own.refl h
  (refine RunVC.boxO o0 rfl ?_; intro b10 m10 o10)
  (refine RunVC.boxO o10 rfl ?_; intro b11 m11 o11)
  (refine RunVC.alloc o11 ty24 ?_; intro b12 m12 o12)
  refine StillVC.run (StillVC.loadON o12 0 rfl ty24 rfl rfl rfl ?_)
  refine CallVC.ret (validR_spec (a1, a2) _ ha) ?_
  rintro _ h1 ⟨rfl, oa⟩
  have o1 := oa.thenE (by assumption)
  cases ka : okP (a1, a2) with
  | false =>
    rw [show addR (a1, a2) (b1, b2) = ((0, 0), 1) from if_neg (fun hc => by rw [ka] at hc; exact Bool.noConfusion hc.1)]
    refine Br.tt ?_
    refine Br.tt ?_
    refine StillVC.run (StillVC.buildK st24 ?_)
    (refine RunVC.storeL o1 2 rfl ty24 rfl (by decide) (And.intro ⟨rfl, rfl⟩ ?_); intro m21 o21)
    first | refine RetVC.cell2 rfl o21 2 rfl ty24 rfl rfl ?_ | refine RetVC.cell1 rfl o21 2 rfl ty24 rfl rfl ?_
    exact ⟨rfl, Own.sel (by assumption) [] rfl⟩
  | true =>
  refine Br.ff ?_
  refine StillVC.run (StillVC.loadON o1 1 rfl ty24 rfl rfl rfl ?_)
  refine CallVC.ret (validR_spec (b1, b2) _ hb) ?_
  rintro _ h2 ⟨rfl, ob⟩
  have o2 := ob.thenE (by assumption)
  cases kb : okP (b1, b2) with
  | false =>
    rw [show addR (a1, a2) (b1, b2) = ((0, 0), 1) from if_neg (fun hc => by rw [kb] at hc; exact Bool.noConfusion hc.2)]
    refine Br.tt ?_
    refine StillVC.run (StillVC.buildK st24 ?_)
    (refine RunVC.storeL o2 2 rfl ty24 rfl (by decide) (And.intro ⟨rfl, rfl⟩ ?_); intro m41 o41)
    first | refine RetVC.cell2 rfl o41 2 rfl ty24 rfl rfl ?_ | refine RetVC.cell1 rfl o41 2 rfl ty24 rfl rfl ?_
    exact ⟨rfl, Own.sel (by assumption) [] rfl⟩
  | true =>
  obtain ⟨r1, r2, r3, r4⟩ := okP_rng ka
  obtain ⟨s1, s2, s3, s4⟩ := okP_rng kb
  simp only at r1 r2 r3 r4 s1 s2 s3 s4
  have m1 := mul_abs_le (A := 1000000000) (B := 1000000000) ⟨r3, r4⟩ ⟨Int.le_of_lt s1, s2⟩
  have m2 := mul_abs_le (A := 1000000000) (B := 1000000000) ⟨s3, s4⟩ ⟨Int.le_of_lt r1, r2⟩
  have m3 := mul_abs_le (x := a2) (A := 1000000000) (B := 1000000000) ⟨by omega, r2⟩ ⟨Int.le_of_lt s1, s2⟩
  have hne : a2 * b2 ≠ 0 := Int.mul_ne_zero (by omega) (by omega)
  have e := ofP_add ka kb
  simp only at e
  rw [show addR (a1, a2) (b1, b2) = ratioR (a1 * b2 + b1 * a2) (a2 * b2) by rw [ratioR_pack hne, e]; exact addR_ok ka kb]
  refine Br.ff ?_
  refine StillVC.run (StillVC.fieldAddr st24 rfl rfl rfl ?_)
  refine StillVC.run (StillVC.loadO o2 0 rfl ty3 rfl rfl ?_)
  refine StillVC.run (StillVC.fieldAddr st24 rfl rfl rfl ?_)
  refine StillVC.run (StillVC.loadO o2 1 rfl ty3 rfl rfl ?_)
  refine Ar.i64 (by omega) (by omega) ?_
  refine StillVC.run (StillVC.fieldAddr st24 rfl rfl rfl ?_)
  refine StillVC.run (StillVC.loadO o2 1 rfl ty3 rfl rfl ?_)
  refine StillVC.run (StillVC.fieldAddr st24 rfl rfl rfl ?_)
  refine StillVC.run (StillVC.loadO o2 0 rfl ty3 rfl rfl ?_)
  refine Ar.i64 (by omega) (by omega) ?_
  refine Ar.i64 (by omega) (by omega) ?_
  refine StillVC.run (StillVC.fieldAddr st24 rfl rfl rfl ?_)
  refine StillVC.run (StillVC.loadO o2 0 rfl ty3 rfl rfl ?_)
  refine StillVC.run (StillVC.fieldAddr st24 rfl rfl rfl ?_)
  refine StillVC.run (StillVC.loadO o2 1 rfl ty3 rfl rfl ?_)
  refine Ar.i64 (by omega) (by omega) ?_
  refine CallVC.ret (makeR_spec _ _ _ (by omega) (by omega) (by omega) (by omega)) ?_
  rintro _ h3 ⟨rfl, oc⟩
  have o3 := oc.thenE (by assumption)
  generalize ratioR (a1 * b2 + b1 * a2) (a2 * b2) = R
  obtain ⟨⟨x, y⟩, z⟩ := R
  (refine RunVC.storeL o3 2 rfl ty24 rfl (by decide) (And.intro ⟨rfl, rfl⟩ ?_); intro m60 o60)
  first | refine RetVC.cell2 rfl o60 2 rfl ty24 rfl rfl ?_ | refine RetVC.cell1 rfl o60 2 rfl ty24 rfl rfl ?_
  exact ⟨rfl, Own.sel (by assumption) [] rfl⟩

set_option maxRecDepth 100000 in
theorem subRef_spec (a b : Int × Int) (h : Heap) (ha : i64P a) (hb : i64P b) :
    SpecR Tryd.prog 25 [ratV a, ratV b] h fun v h' => v = ratE (subR a b) ∧ Own h [] h' := by
  obtain ⟨a1, a2⟩ := a
  obtain ⟨b1, b2⟩ := b
  show SpecR Tryd.prog 25 [.agg ⟨[.int .i64 a1, .int .i64 a2]⟩, .agg ⟨[.int .i64 b1, .int .i64 b2]⟩] h fun v h' => v = ratE (subR (a1, a2) (b1, b2)) ∧ Own h [] h'
  refine Spec.enter Tryd.func25 rfl Tryd.ntmps25 (by kernel_rfl) ?_
  have o0 := Own.refl h
  (refine RunVC.boxO o0 rfl ?_; intro b10 m10 o10)
  (refine RunVC.boxO o10 rfl ?_; intro b11 m11 o11)
  (refine RunVC.alloc o11 ty24 ?_; intro b12 m12 o12)
  refine StillVC.run (StillVC.loadON o12 0 rfl ty24 rfl rfl rfl ?_)
  refine CallVC.ret (validR_spec (a1, a2) _ ha) ?_
  rintro _ h1 ⟨rfl, oa⟩
  have o1 := oa.thenE (by assumption)
  cases ka : okP (a1, a2) with
  | false =>
    rw [show subR (a1, a2) (b1, b2) = ((0, 0), 1) from if_neg (fun hc => by rw [ka] at hc; exact Bool.noConfusion hc.1)]
    refine Br.tt ?_
    refine Br.tt ?_
    refine StillVC.run (StillVC.buildK st24 ?_)
    (refine RunVC.storeL o1 2 rfl ty24 rfl (by decide) (And.intro ⟨rfl, rfl⟩ ?_); intro m21 o21)
    first | refine RetVC.cell2 rfl o21 2 rfl ty24 rfl rfl ?_ | refine RetVC.cell1 rfl o21 2 rfl ty24 rfl rfl ?_
    exact ⟨rfl, Own.sel (by assumption) [] rfl⟩
  | true =>
  refine Br.ff ?_
  refine StillVC.run (StillVC.loadON o1 1 rfl ty24 rfl rfl rfl ?_)
  refine CallVC.ret (validR_spec (b1, b2) _ hb) ?_
  rintro _ h2 ⟨rfl, ob⟩
  have o2 := ob.thenE (by assumption)
  cases kb : okP (b1, b2) with
  | false =>
    rw [show subR (a1, a2) (b1, b2) = ((0, 0), 1) from if_neg (fun hc => by rw [kb] at hc; exact Bool.noConfusion hc.2)]
    refine Br.tt ?_
    refine StillVC.run (StillVC.buildK st24 ?_)
    (refine RunVC.storeL o2 2 rfl ty24 rfl (by decide) (And.intro ⟨rfl, rfl⟩ ?_); intro m41 o41)
    first | refine RetVC.cell2 rfl o41 2 rfl ty24 rfl rfl ?_ | refine RetVC.cell1 rfl o41 2 rfl ty24 rfl rfl ?_
    exact ⟨rfl, Own.sel (by assumption) [] rfl⟩
  | true =>
  obtain ⟨r1, r2, r3, r4⟩ := okP_rng ka
  obtain ⟨s1, s2, s3, s4⟩ := okP_rng kb
  simp only at r1 r2 r3 r4 s1 s2 s3 s4
  have m1 := mul_abs_le (A := 1000000000) (B := 1000000000) ⟨r3, r4⟩ ⟨Int.le_of_lt s1, s2⟩
  have m2 := mul_abs_le (A := 1000000000) (B := 1000000000) ⟨s3, s4⟩ ⟨Int.le_of_lt r1, r2⟩
  have m3 := mul_abs_le (x := a2) (A := 1000000000) (B := 1000000000) ⟨by omega, r2⟩ ⟨Int.le_of_lt s1, s2⟩
  have hne : a2 * b2 ≠ 0 := Int.mul_ne_zero (by omega) (by omega)
  have e := ofP_sub ka kb
  simp only at e
  rw [show subR (a1, a2) (b1, b2) = ratioR (a1 * b2 - b1 * a2) (a2 * b2) by rw [ratioR_pack hne, e]; exact subR_ok ka kb]
  refine Br.ff ?_
  refine StillVC.run (StillVC.fieldAddr st24 rfl rfl rfl ?_)
  refine StillVC.run (StillVC.loadO o2 0 rfl ty3 rfl rfl ?_)
  refine StillVC.run (StillVC.fieldAddr st24 rfl rfl rfl ?_)
  refine StillVC.run (StillVC.loadO o2 1 rfl ty3 rfl rfl ?_)
  refine Ar.i64 (by omega) (by omega) ?_
  refine StillVC.run (StillVC.fieldAddr st24 rfl rfl rfl ?_)
  refine StillVC.run (StillVC.loadO o2 1 rfl ty3 rfl rfl ?_)
  refine StillVC.run (StillVC.fieldAddr st24 rfl rfl rfl ?_)
  refine StillVC.run (StillVC.loadO o2 0 rfl ty3 rfl rfl ?_)
  refine Ar.i64 (by omega) (by omega) ?_
  refine Ar.i64 (by omega) (by omega) ?_
  refine StillVC.run (StillVC.fieldAddr st24 rfl rfl rfl ?_)
  refine StillVC.run (StillVC.loadO o2 0 rfl ty3 rfl rfl ?_)
  refine StillVC.run (StillVC.fieldAddr st24 rfl rfl rfl ?_)
  refine StillVC.run (StillVC.loadO o2 1 rfl ty3 rfl rfl ?_)
  refine Ar.i64 (by omega) (by omega) ?_
  refine CallVC.ret (makeR_spec _ _ _ (by omega) (by omega) (by omega) (by omega)) ?_
  rintro _ h3 ⟨rfl, oc⟩
  have o3 := oc.thenE (by assumption)
  generalize ratioR (a1 * b2 - b1 * a2) (a2 * b2) = R
  obtain ⟨⟨x, y⟩, z⟩ := R
  (refine RunVC.storeL o3 2 rfl ty24 rfl (by decide) (And.intro ⟨rfl, rfl⟩ ?_); intro m60 o60)
  first | refine RetVC.cell2 rfl o60 2 rfl ty24 rfl rfl ?_ | refine RetVC.cell1 rfl o60 2 rfl ty24 rfl rfl ?_
  exact ⟨rfl, Own.sel (by assumption) [] rfl⟩

set_option maxRecDepth 100000 in
theorem cmpRef_spec (a b : Int × Int) (h : Heap) (ha : i64P a) (hb : i64P b) :
    SpecR Tryd.prog 29 [ratV a, ratV b] h fun v h' => v = .int .i64 (cmpR a b) ∧ Own h [] h' := by
  obtain ⟨a1, a2⟩ := a
  obtain ⟨b1, b2⟩ := b
  show SpecR Tryd.prog 29 [.agg ⟨[.int .i64 a1, .int .i64 a2]⟩, .agg ⟨[.int .i64 b1, .int .i64 b2]⟩] h fun v h' => v = .int .i64 (cmpR (a1, a2) (b1, b2)) ∧ Own h [] h'
  refine Spec.enter Tryd.func29 rfl Tryd.ntmps29 (by kernel_rfl) ?_
  have o0 := Own.refl h
  (refine RunVC.boxO o0 rfl ?_; intro b10 m10 o10)
  (refine RunVC.boxO o10 rfl ?_; intro b11 m11 o11)
  refine StillVC.run (StillVC.loadON o11 0 rfl ty24 rfl rfl rfl ?_)
  refine CallVC.ret (validR_spec (a1, a2) _ ha) ?_
  rintro _ h1 ⟨rfl, oa⟩
  have o1 := oa.thenE (by assumption)
  cases ka : okP (a1, a2) with
  | false =>
    rw [show cmpR (a1, a2) (b1, b2) = 0 from if_neg (fun hc => by rw [ka] at hc; exact Bool.noConfusion hc.1)]
    refine Br.tt ?_
    refine Br.tt ?_
    refine RetVC.one rfl ?_
    exact ⟨rfl, Own.sel (by assumption) [] rfl⟩
  | true =>
  refine Br.ff ?_
  refine StillVC.run (StillVC.loadON o1 1 rfl ty24 rfl rfl rfl ?_)
  refine CallVC.ret (validR_spec (b1, b2) _ hb) ?_
  rintro _ h2 ⟨rfl, ob⟩
  have o2 := ob.thenE (by assumption)
  cases kb : okP (b1, b2) with
  | false =>
    rw [show cmpR (a1, a2) (b1, b2) = 0 from if_neg (fun hc => by rw [kb] at hc; exact Bool.noConfusion hc.2)]
    refine Br.tt ?_
    refine RetVC.one rfl ?_
    exact ⟨rfl, Own.sel (by assumption) [] rfl⟩
  | true =>
  obtain ⟨r1, r2, r3, r4⟩ := okP_rng ka
  obtain ⟨s1, s2, s3, s4⟩ := okP_rng kb
  simp only at r1 r2 r3 r4 s1 s2 s3 s4
  have m1 := mul_abs_le (A := 1000000000) (B := 1000000000) ⟨r3, r4⟩ ⟨Int.le_of_lt s1, s2⟩
  have m2 := mul_abs_le (A := 1000000000) (B := 1000000000) ⟨s3, s4⟩ ⟨Int.le_of_lt r1, r2⟩
  have m3 := mul_abs_le (x := a2) (A := 1000000000) (B := 1000000000) ⟨by omega, r2⟩ ⟨Int.le_of_lt s1, s2⟩
  have hne : a2 * b2 ≠ 0 := Int.mul_ne_zero (by omega) (by omega)
  have hlt := ofP_lt ka kb
  have hgt := ofP_lt kb ka
  simp only at hlt hgt
  rw [cmpR_ok ka kb]
  by_cases c1 : ofP (a1, a2) < ofP (b1, b2)
  · rw [if_pos c1]
    have := hlt.1 c1
    refine Br.ff ?_
    refine StillVC.run (StillVC.fieldAddr st24 rfl rfl rfl ?_)
    refine StillVC.run (StillVC.loadO o2 0 rfl ty3 rfl rfl ?_)
    refine StillVC.run (StillVC.fieldAddr st24 rfl rfl rfl ?_)
    refine StillVC.run (StillVC.loadO o2 1 rfl ty3 rfl rfl ?_)
    refine Ar.i64 (by omega) (by omega) ?_
    refine StillVC.run (StillVC.fieldAddr st24 rfl rfl rfl ?_)
    refine StillVC.run (StillVC.loadO o2 1 rfl ty3 rfl rfl ?_)
    refine StillVC.run (StillVC.fieldAddr st24 rfl rfl rfl ?_)
    refine StillVC.run (StillVC.loadO o2 0 rfl ty3 rfl rfl ?_)
    refine Ar.i64 (by omega) (by omega) ?_
    refine Br.dec (fun c58 => ?_) (fun hc => absurd (by omega) hc)
    refine RetVC.one rfl ?_
    exact ⟨rfl, Own.sel (by assumption) [] rfl⟩
  · rw [if_neg c1]
    have c1' : ¬ a1 * b2 < b1 * a2 := fun e => c1 (hlt.2 e)
    by_cases c2 : ofP (b1, b2) < ofP (a1, a2)
    · rw [if_pos c2]
      have := hgt.1 c2
      refine Br.ff ?_
      refine StillVC.run (StillVC.fieldAddr st24 rfl rfl rfl ?_)
      refine StillVC.run (StillVC.loadO o2 0 rfl ty3 rfl rfl ?_)
      refine StillVC.run (StillVC.fieldAddr st24 rfl rfl rfl ?_)
      refine StillVC.run (StillVC.loadO o2 1 rfl ty3 rfl rfl ?_)
      refine Ar.i64 (by omega) (by omega) ?_
      refine StillVC.run (StillVC.fieldAddr st24 rfl rfl rfl ?_)
      refine StillVC.run (StillVC.loadO o2 1 rfl ty3 rfl rfl ?_)
      refine StillVC.run (StillVC.fieldAddr st24 rfl rfl rfl ?_)
      refine StillVC.run (StillVC.loadO o2 0 rfl ty3 rfl rfl ?_)
      refine Ar.i64 (by omega) (by omega) ?_
      refine Br.dec (fun hc => absurd hc (by omega)) (fun c68 => ?_)
      refine Br.dec (fun c69 => ?_) (fun hc => absurd (by omega) hc)
      refine RetVC.one rfl ?_
      exact ⟨rfl, Own.sel (by assumption) [] rfl⟩
    · rw [if_neg c2]
      have c2' : ¬ b1 * a2 < a1 * b2 := fun e => c2 (hgt.2 e)
      refine Br.ff ?_
      refine StillVC.run (StillVC.fieldAddr st24 rfl rfl rfl ?_)
      refine StillVC.run (StillVC.loadO o2 0 rfl ty3 rfl rfl ?_)
      refine StillVC.run (StillVC.fieldAddr st24 rfl rfl rfl ?_)
      refine StillVC.run (StillVC.loadO o2 1 rfl ty3 rfl rfl ?_)
      refine Ar.i64 (by omega) (by omega) ?_
      refine StillVC.run (StillVC.fieldAddr st24 rfl rfl rfl ?_)
      refine StillVC.run (StillVC.loadO o2 1 rfl ty3 rfl rfl ?_)
      refine StillVC.run (StillVC.fieldAddr st24 rfl rfl rfl ?_)
      refine StillVC.run (StillVC.loadO o2 0 rfl ty3 rfl rfl ?_)
      refine Ar.i64 (by omega) (by omega) ?_
      refine Br.dec (fun hc => absurd hc (by omega)) (fun c78 => ?_)
      refine Br.dec (fun hc => absurd hc (by omega)) (fun c79 => ?_)
      refine RetVC.one rfl ?_
      exact ⟨rfl, Own.sel (by assumption) [] rfl⟩

/-- A product, its common divisors removed, is in lowest terms. -/
theorem coprime_prod {w x y z : Nat} (hwx : Nat.gcd w x = 1) (hyz : Nat.gcd y z = 1) (w' x' y' z' : Nat) (ew : w = Nat.gcd w z * w') (ez : z = Nat.gcd w z * z') (ey : y = Nat.gcd y x * y') (ex : x = Nat.gcd y x * x') (g0 : 0 < Nat.gcd w z) (k0 : 0 < Nat.gcd y x) :
    Nat.gcd (w' * y') (x' * z') = 1 := by
  have hw' : w' ∣ w := ⟨_, by rw [Nat.mul_comm]; exact ew⟩
  have hx' : x' ∣ x := ⟨_, by rw [Nat.mul_comm]; exact ex⟩
  have hy' : y' ∣ y := ⟨_, by rw [Nat.mul_comm]; exact ey⟩
  have hz' : z' ∣ z := ⟨_, by rw [Nat.mul_comm]; exact ez⟩
  have c1 : Nat.Coprime w' x' := Nat.Coprime.coprime_dvd_left hw' (Nat.Coprime.coprime_dvd_right hx' hwx)
  have c2 : Nat.Coprime y' z' := Nat.Coprime.coprime_dvd_left hy' (Nat.Coprime.coprime_dvd_right hz' hyz)
  have c3 : Nat.Coprime w' z' := by
    have h1 : w / Nat.gcd w z = w' := by conv => lhs; arg 1; rw [ew]
                                         exact Nat.mul_div_cancel_left _ g0
    have h2 : z / Nat.gcd w z = z' := by conv => lhs; arg 1; rw [ez]
                                         exact Nat.mul_div_cancel_left _ g0
    have := Nat.coprime_div_gcd_div_gcd g0
    rwa [h1, h2] at this
  have c4 : Nat.Coprime y' x' := by
    have h1 : y / Nat.gcd y x = y' := by conv => lhs; arg 1; rw [ey]
                                         exact Nat.mul_div_cancel_left _ k0
    have h2 : x / Nat.gcd y x = x' := by conv => lhs; arg 1; rw [ex]
                                         exact Nat.mul_div_cancel_left _ k0
    have := Nat.coprime_div_gcd_div_gcd k0
    rwa [h1, h2] at this
  exact Nat.Coprime.mul_left (Nat.Coprime.mul_right c1 c3) (Nat.Coprime.mul_right c4 c2)

set_option maxHeartbeats 4000000 in
set_option maxRecDepth 100000 in
theorem mulRef_spec (a b : Int × Int) (h : Heap) (ha : i64P a) (hb : i64P b) :
    SpecR Tryd.prog 26 [ratV a, ratV b] h fun v h' => v = ratE (mulR a b) ∧ Own h [] h' := by
  obtain ⟨a1, a2⟩ := a
  obtain ⟨b1, b2⟩ := b
  show SpecR Tryd.prog 26 [.agg ⟨[.int .i64 a1, .int .i64 a2]⟩, .agg ⟨[.int .i64 b1, .int .i64 b2]⟩] h fun v h' => v = ratE (mulR (a1, a2) (b1, b2)) ∧ Own h [] h'
  refine Spec.enter Tryd.func26 rfl Tryd.ntmps26 (by kernel_rfl) ?_
  have o0 := Own.refl h
  (refine RunVC.boxO o0 rfl ?_; intro b10 m10 o10)
  (refine RunVC.boxO o10 rfl ?_; intro b11 m11 o11)
  (refine RunVC.alloc o11 ty24 ?_; intro b12 m12 o12)
  refine StillVC.run (StillVC.loadON o12 0 rfl ty24 rfl rfl rfl ?_)
  refine CallVC.ret (validR_spec (a1, a2) _ ha) ?_
  rintro _ h1 ⟨rfl, oa⟩
  have o1 := oa.thenE (by assumption)
  cases ka : okP (a1, a2) with
  | false =>
    rw [show mulR (a1, a2) (b1, b2) = ((0, 0), 1) from if_neg (fun hc => by rw [ka] at hc; exact Bool.noConfusion hc.1)]
    refine Br.tt ?_
    refine Br.tt ?_
    refine StillVC.run (StillVC.buildK st24 ?_)
    (refine RunVC.storeL o1 2 rfl ty24 rfl (by decide) (And.intro ⟨rfl, rfl⟩ ?_); intro m21 o21)
    first | refine RetVC.cell2 rfl o21 2 rfl ty24 rfl rfl ?_ | refine RetVC.cell1 rfl o21 2 rfl ty24 rfl rfl ?_
    exact ⟨rfl, Own.sel (by assumption) [] rfl⟩
  | true =>
  refine Br.ff ?_
  refine StillVC.run (StillVC.loadON o1 1 rfl ty24 rfl rfl rfl ?_)
  refine CallVC.ret (validR_spec (b1, b2) _ hb) ?_
  rintro _ h2 ⟨rfl, ob⟩
  have o2 := ob.thenE (by assumption)
  cases kb : okP (b1, b2) with
  | false =>
    rw [show mulR (a1, a2) (b1, b2) = ((0, 0), 1) from if_neg (fun hc => by rw [kb] at hc; exact Bool.noConfusion hc.2)]
    refine Br.tt ?_
    refine StillVC.run (StillVC.buildK st24 ?_)
    (refine RunVC.storeL o2 2 rfl ty24 rfl (by decide) (And.intro ⟨rfl, rfl⟩ ?_); intro m41 o41)
    first | refine RetVC.cell2 rfl o41 2 rfl ty24 rfl rfl ?_ | refine RetVC.cell1 rfl o41 2 rfl ty24 rfl rfl ?_
    exact ⟨rfl, Own.sel (by assumption) [] rfl⟩
  | true =>
  obtain ⟨r1, r2, r3, r4⟩ := okP_rng ka
  obtain ⟨s1, s2, s3, s4⟩ := okP_rng kb
  simp only at r1 r2 r3 r4 s1 s2 s3 s4
  have hcop := (okP_iff.1 ka).2.2.2
  have hcop2 := (okP_iff.1 kb).2.2.2
  simp only at hcop hcop2
  have key := divInt_of_natAbs a1 b1 a2 b2 a1.natAbs b1.natAbs b2.natAbs
  have hminus : decide (b2 < 0) = false := decide_eq_false (by omega)
  rw [hminus] at key
  have hmn : (!decide (decide (b1 < 0) = false)) = decide (b1 < 0) := by cases decide (b1 < 0) <;> rfl
  rw [hmn] at key
  have hR : mulR (a1, a2) (b1, b2) = packR (Rat.divInt (a1 * b1) (a2 * b2)) := by
    rw [mulR_ok ka kb, ← ofP_mul]
  rw [hR]
  have hw : a1.natAbs ≤ 1000000000 := by omega
  have hx : a2.natAbs ≤ 1000000000 := by omega
  have hy : b1.natAbs ≤ 1000000000 := by omega
  have hz : b2.natAbs ≤ 1000000000 := by omega
  have hq : 0 < a2.natAbs := by omega
  have hd' : 0 < b2.natAbs := by omega
  have cp := fun (w' x' y' z' : Nat) => coprime_prod hcop hcop2 w' x' y' z'
  refine Br.ff ?_
  refine DrawVC.intro [0, 3, 7] [1, 4] [5, 6] [0, 1, 3, 4, 2, 5, 6, 7] mixed (by kernel_rfl) rfl (fun _ _ _ _ h => h) ?_
  refine StillVC.fieldAddr st24 rfl rfl rfl ?_
  refine StillVC.loadO o2 0 rfl ty3 rfl rfl ?_
  refine StillVC.fieldAddr st24 rfl rfl rfl ?_
  refine StillVC.loadO o2 1 rfl ty3 rfl rfl ?_
  refine CallVC.ret (size_spec a1 _ (by omega) (by omega)) ?_
  rintro _ h3 ⟨rfl, oc3⟩
  have p3 := oc3.thenE (by assumption)
  refine And.intro oc3.ext ?_
  refine CallVC.ret (size_spec b2 _ (by omega) (by omega)) ?_
  rintro _ h4 ⟨rfl, oc4⟩
  have p4 := oc4.thenE (by assumption)
  generalize hW : a1.natAbs = w at *
  generalize hX : a2.natAbs = x at *
  generalize hY : b1.natAbs = y at *
  generalize hZ : b2.natAbs = z at *
  refine CallVC.ret (gcd_spec w z _ (by omega) (by omega)) ?_
  rintro _ h5 ⟨rfl, oc5⟩
  have p5 := oc5.thenE (by assumption)
  refine DrawVC.intro [0, 3, 7] [1, 4] [5, 6] [0, 1, 3, 4, 2, 5, 6, 7] mixed (by kernel_rfl) rfl (fun _ _ _ _ h => h) ?_
  refine StillVC.fieldAddr st24 rfl rfl rfl ?_
  refine StillVC.loadO p5 1 rfl ty3 rfl rfl ?_
  refine StillVC.fieldAddr st24 rfl rfl rfl ?_
  refine StillVC.loadO p5 0 rfl ty3 rfl rfl ?_
  refine CallVC.ret (size_spec b1 _ (by omega) (by omega)) ?_
  rintro _ h6 ⟨rfl, oc6⟩
  rw [hY]
  have p6 := oc6.thenE (by assumption)
  refine And.intro oc6.ext ?_
  refine CallVC.ret (size_spec a2 _ (by omega) (by omega)) ?_
  rintro _ h7 ⟨rfl, oc7⟩
  rw [hX]
  have p7 := oc7.thenE (by assumption)
  refine CallVC.ret (gcd_spec y x _ (by omega) (by omega)) ?_
  rintro _ h8 ⟨rfl, oc8⟩
  have p8 := oc8.thenE (by assumption)
  have g0 : 0 < Nat.gcd w z := Nat.gcd_pos_of_pos_right _ hd'
  have k0 : 0 < Nat.gcd y x := Nat.gcd_pos_of_pos_right _ hq
  obtain ⟨w', ew⟩ := Nat.gcd_dvd_left w z
  obtain ⟨z', ez⟩ := Nat.gcd_dvd_right w z
  obtain ⟨y', ey⟩ := Nat.gcd_dvd_left y x
  obtain ⟨x', ex⟩ := Nat.gcd_dvd_right y x
  have hco := cp w' x' y' z' ew ez ey ex g0 k0
  generalize Nat.gcd w z = g at *
  generalize Nat.gcd y x = k at *
  have dw : ((w : Int) / (g : Int)) = (w' : Nat) := by rw [← Int.natCast_ediv, ew, Nat.mul_div_cancel_left _ g0]
  have dz : ((z : Int) / (g : Int)) = (z' : Nat) := by rw [← Int.natCast_ediv, ez, Nat.mul_div_cancel_left _ g0]
  have dy : ((y : Int) / (k : Int)) = (y' : Nat) := by rw [← Int.natCast_ediv, ey, Nat.mul_div_cancel_left _ k0]
  have dx : ((x : Int) / (k : Int)) = (x' : Nat) := by rw [← Int.natCast_ediv, ex, Nat.mul_div_cancel_left _ k0]
  have lw : w' ≤ w := by rw [ew]; exact Nat.le_mul_of_pos_left _ g0
  have lz : z' ≤ z := by rw [ez]; exact Nat.le_mul_of_pos_left _ g0
  have ly : y' ≤ y := by rw [ey]; exact Nat.le_mul_of_pos_left _ k0
  have lx : x' ≤ x := by rw [ex]; exact Nat.le_mul_of_pos_left _ k0
  have z0 : 0 < z' := Nat.pos_of_ne_zero fun e => by rw [e, Nat.mul_zero] at ez; omega
  have x0 : 0 < x' := Nat.pos_of_ne_zero fun e => by rw [e, Nat.mul_zero] at ex; omega
  have bn : w' * y' ≤ 1000000000 * 1000000000 := Nat.mul_le_mul (by omega) (by omega)
  have bd : x' * z' ≤ 1000000000 * 1000000000 := Nat.mul_le_mul (by omega) (by omega)
  have pd : 0 < x' * z' := Nat.mul_pos x0 z0
  have key2 := key (w' * y') (x' * z') g k rfl rfl rfl r1 (by omega) (by rw [ew, ey]; grind) (by rw [ex, ez]; grind) (by have := Nat.mul_pos g0 k0; omega)
  rw [← key2, ← reducedR_pack _ _ _ pd]
  refine StillVC.run (StillVC.fieldAddr st24 rfl rfl rfl ?_)
  refine StillVC.run (StillVC.loadO p8 0 rfl ty3 rfl rfl ?_)
  refine CallVC.ret (size_spec a1 _ (by omega) (by omega)) ?_
  rintro _ h9 ⟨rfl, oc9⟩
  rw [hW]
  have p9 := oc9.thenE (by assumption)
  refine StillVC.run (StillVC.quoE rfl rfl (by omega) (by omega) (by simp [IntKind.max, IntKind.signed, IntKind.bits]; omega) ?_)
  refine StillVC.run (StillVC.fieldAddr st24 rfl rfl rfl ?_)
  refine StillVC.run (StillVC.loadO p9 1 rfl ty3 rfl rfl ?_)
  refine CallVC.ret (size_spec b1 _ (by omega) (by omega)) ?_
  rintro _ h10 ⟨rfl, oc10⟩
  rw [hY]
  have p10 := oc10.thenE (by assumption)
  have hred : reducedR (!decide (decide (a1 < 0) = decide (b1 < 0))) (w' * y') (x' * z') = if 1000000000 < w' * y' ∨ 1000000000 < x' * z' then ((0, 0), 2) else ((if (!decide (decide (a1 < 0) = decide (b1 < 0))) = true then -((w' * y' : Nat) : Int) else (w' * y' : Nat), ((x' * z' : Nat) : Int)), 0) := by
    unfold reducedR
    rw [hco, Nat.div_one, Nat.div_one]
  have hqd : Int.tdiv 1000000000 ((w : Int) / (g : Int)) % 18446744073709551616 = ((1000000000 / w' : Nat) : Int) := by
    rw [dw, Int.tdiv_eq_ediv_of_nonneg (by omega), Int.natCast_ediv]
    have h1 : (1000000000 : Int) / (w' : Int) ≤ 1000000000 := Int.ediv_le_self _ (by omega)
    have h2 : 0 ≤ (1000000000 : Int) / (w' : Int) := Int.ediv_nonneg (by omega) (by omega)
    show (1000000000 : Int) / (w' : Int) % 18446744073709551616 = (1000000000 : Int) / (w' : Int)
    omega
  have e1 : (w : Int) / (g : Int) * ((y : Int) / (k : Int)) % 18446744073709551616 = ((w' * y' : Nat) : Int) := by
    rw [dw, dy, ← Int.natCast_mul]
    omega
  have e2 : (x : Int) / (k : Int) * ((z : Int) / (g : Int)) % 18446744073709551616 = ((x' * z' : Nat) : Int) := by
    rw [dx, dz, ← Int.natCast_mul]
    omega
  by_cases hbig : 0 < w' ∧ 1000000000 / w' < y'
  · have hb : 1000000000 < w' * y' := by
      have := (Nat.div_lt_iff_lt_mul hbig.1).1 hbig.2
      rwa [Nat.mul_comm] at this
    obtain ⟨hbig1, hbig2⟩ := hbig
    rw [hred, if_pos (.inl hb)]
    refine StillVC.run (StillVC.quoE rfl rfl (by omega) (by omega) (by simp [IntKind.max, IntKind.signed, IntKind.bits]; omega) ?_)
    refine Br.dec (fun c131 => ?_) (fun hc => absurd (by omega) hc)
    refine StillVC.run (StillVC.quo rfl rfl (by omega) ?_)
    refine Ar.u64w ?_
    refine Br.dec (fun c133 => ?_) (fun hc => absurd (by omega) hc)
    refine StillVC.run (StillVC.buildK st24 ?_)
    (refine RunVC.storeL p10 2 rfl ty24 rfl (by decide) (And.intro ⟨rfl, rfl⟩ ?_); intro m135 o135)
    first | refine RetVC.cell2 rfl o135 2 rfl ty24 rfl rfl ?_ | refine RetVC.cell1 rfl o135 2 rfl ty24 rfl rfl ?_
    exact ⟨rfl, Own.sel (by assumption) [] rfl⟩
  · have hfin : ∀ (R : (Int × Int) × Int), ∃ x y z, R = ((x, y), z) := fun ⟨⟨x, y⟩, z⟩ => ⟨x, y, z, rfl⟩
    by_cases hw0 : w' = 0
    · refine StillVC.run (StillVC.quoE rfl rfl (by omega) (by omega) (by simp [IntKind.max, IntKind.signed, IntKind.bits]; omega) ?_)
      refine Br.dec (fun hc => absurd hc (by omega)) (fun c161 => ?_)
      refine Br.ff ?_
      refine DrawVC.intro [0, 2, 3, 5, 6, 7, 8, 9, 10, 13, 14, 15, 18, 19, 20, 22, 23, 25] [1, 4, 11, 16] [21, 24] [0, 1, 2, 3, 4, 5, 6, 7, 8, 9, 10, 11, 13, 15, 16, 18, 12, 14, 17, 19, 20, 21, 22, 23, 24, 25] mixed (by kernel_rfl) rfl (fun _ _ _ _ h => h) ?_
      refine StillVC.fieldAddr st24 rfl rfl rfl ?_
      refine StillVC.loadO p10 0 rfl ty3 rfl rfl ?_
      refine StillVC.fieldAddr st24 rfl rfl rfl ?_
      refine StillVC.loadO p10 1 rfl ty3 rfl rfl ?_
      refine StillVC.neB bool4 rfl rfl ?_
      refine Ar.u64w ?_
      refine StillVC.fieldAddr st24 rfl rfl rfl ?_
      refine StillVC.loadO p10 0 rfl ty3 rfl rfl ?_
      refine StillVC.fieldAddr st24 rfl rfl rfl ?_
      refine StillVC.loadO p10 1 rfl ty3 rfl rfl ?_
      refine CallVC.ret (size_spec a2 _ (by omega) (by omega)) ?_
      rintro _ h11 ⟨rfl, oc11⟩
      rw [hX]
      have p11 := oc11.thenE (by assumption)
      refine And.intro oc11.ext ?_
      refine StillVC.quoE rfl rfl (by omega) (by omega) (by simp [IntKind.max, IntKind.signed, IntKind.bits]; omega) ?_
      refine CallVC.ret (size_spec b2 _ (by omega) (by omega)) ?_
      rintro _ h12 ⟨rfl, oc12⟩
      rw [hZ]
      have p12 := oc12.thenE (by assumption)
      refine And.intro oc12.ext ?_
      refine StillVC.quoE rfl rfl (by omega) (by omega) (by simp [IntKind.max, IntKind.signed, IntKind.bits]; omega) ?_
      refine Ar.u64w ?_
      rw [e1, e2]
      refine CallVC.ret (ofR_spec _ (w' * y') (x' * z') _ (by omega) (by omega)) ?_
      rintro _ h13 ⟨rfl, oc13⟩
      have p13 := oc13.thenE (by assumption)
      rw [if_neg (by omega)]
      obtain ⟨r, s, c, hr⟩ := hfin (reducedR (!decide (decide (a1 < 0) = decide (b1 < 0))) (w' * y') (x' * z'))
      rw [hr]
      (refine RunVC.storeL p13 2 rfl ty24 rfl (by decide) (And.intro ⟨rfl, rfl⟩ ?_); intro m190 o190)
      first | refine RetVC.cell2 rfl o190 2 rfl ty24 rfl rfl ?_ | refine RetVC.cell1 rfl o190 2 rfl ty24 rfl rfl ?_
      exact ⟨rfl, Own.sel (by assumption) [] rfl⟩
    · have hsm : ¬ 1000000000 / w' < y' := fun e => hbig ⟨by omega, e⟩
      refine StillVC.run (StillVC.quoE rfl rfl (by omega) (by omega) (by simp [IntKind.max, IntKind.signed, IntKind.bits]; omega) ?_)
      refine Br.dec (fun c201 => ?_) (fun hc => absurd (by omega) hc)
      refine StillVC.run (StillVC.quo rfl rfl (by omega) ?_)
      refine Ar.u64w ?_
      refine Br.dec (fun hc => absurd hc (by omega)) (fun c203 => ?_)
      refine DrawVC.intro [0, 2, 3, 5, 6, 7, 8, 9, 10, 13, 14, 15, 18, 19, 20, 22, 23, 25] [1, 4, 11, 16] [21, 24] [0, 1, 2, 3, 4, 5, 6, 7, 8, 9, 10, 11, 13, 15, 16, 18, 12, 14, 17, 19, 20, 21, 22, 23, 24, 25] mixed (by kernel_rfl) rfl (fun _ _ _ _ h => h) ?_
      refine StillVC.fieldAddr st24 rfl rfl rfl ?_
      refine StillVC.loadO p10 0 rfl ty3 rfl rfl ?_
      refine StillVC.fieldAddr st24 rfl rfl rfl ?_
      refine StillVC.loadO p10 1 rfl ty3 rfl rfl ?_
      refine StillVC.neB bool4 rfl rfl ?_
      refine Ar.u64w ?_
      refine StillVC.fieldAddr st24 rfl rfl rfl ?_
      refine StillVC.loadO p10 0 rfl ty3 rfl rfl ?_
      refine StillVC.fieldAddr st24 rfl rfl rfl ?_
      refine StillVC.loadO p10 1 rfl ty3 rfl rfl ?_
      refine CallVC.ret (size_spec a2 _ (by omega) (by omega)) ?_
      rintro _ h11 ⟨rfl, oc11⟩
      rw [hX]
      have p11 := oc11.thenE (by assumption)
      refine And.intro oc11.ext ?_
      refine StillVC.quoE rfl rfl (by omega) (by omega) (by simp [IntKind.max, IntKind.signed, IntKind.bits]; omega) ?_
      refine CallVC.ret (size_spec b2 _ (by omega) (by omega)) ?_
      rintro _ h12 ⟨rfl, oc12⟩
      rw [hZ]
      have p12 := oc12.thenE (by assumption)
      refine And.intro oc12.ext ?_
      refine StillVC.quoE rfl rfl (by omega) (by omega) (by simp [IntKind.max, IntKind.signed, IntKind.bits]; omega) ?_
      refine Ar.u64w ?_
      rw [e1, e2]
      refine CallVC.ret (ofR_spec _ (w' * y') (x' * z') _ (by omega) (by omega)) ?_
      rintro _ h13 ⟨rfl, oc13⟩
      have p13 := oc13.thenE (by assumption)
      rw [if_neg (by omega)]
      obtain ⟨r, s, c, hr⟩ := hfin (reducedR (!decide (decide (a1 < 0) = decide (b1 < 0))) (w' * y') (x' * z'))
      rw [hr]
      (refine RunVC.storeL p13 2 rfl ty24 rfl (by decide) (And.intro ⟨rfl, rfl⟩ ?_); intro m230 o230)
      first | refine RetVC.cell2 rfl o230 2 rfl ty24 rfl rfl ?_ | refine RetVC.cell1 rfl o230 2 rfl ty24 rfl rfl ?_
      exact ⟨rfl, Own.sel (by assumption) [] rfl⟩

set_option maxRecDepth 100000 in
theorem divRef_spec (a b : Int × Int) (h : Heap) (ha : i64P a) (hb : i64P b) :
    SpecR Tryd.prog 27 [ratV a, ratV b] h fun v h' => v = ratE (divR a b) ∧ Own h [] h' := by
  obtain ⟨a1, a2⟩ := a
  obtain ⟨b1, b2⟩ := b
  show SpecR Tryd.prog 27 [.agg ⟨[.int .i64 a1, .int .i64 a2]⟩, .agg ⟨[.int .i64 b1, .int .i64 b2]⟩] h fun v h' => v = ratE (divR (a1, a2) (b1, b2)) ∧ Own h [] h'
  refine Spec.enter Tryd.func27 rfl Tryd.ntmps27 (by kernel_rfl) ?_
  have o0 := Own.refl h
  (refine RunVC.boxO o0 rfl ?_; intro b10 m10 o10)
  (refine RunVC.boxO o10 rfl ?_; intro b11 m11 o11)
  (refine RunVC.alloc o11 ty24 ?_; intro b12 m12 o12)
  refine StillVC.run (StillVC.loadON o12 0 rfl ty24 rfl rfl rfl ?_)
  refine CallVC.ret (validR_spec (a1, a2) _ ha) ?_
  rintro _ h1 ⟨rfl, oa⟩
  have o1 := oa.thenE (by assumption)
  cases ka : okP (a1, a2) with
  | false =>
    rw [show divR (a1, a2) (b1, b2) = ((0, 0), 1) from if_neg (fun hc => by rw [ka] at hc; exact Bool.noConfusion hc.1)]
    refine Br.tt ?_
    refine Br.tt ?_
    refine StillVC.run (StillVC.buildK st24 ?_)
    (refine RunVC.storeL o1 2 rfl ty24 rfl (by decide) (And.intro ⟨rfl, rfl⟩ ?_); intro m21 o21)
    first | refine RetVC.cell2 rfl o21 2 rfl ty24 rfl rfl ?_ | refine RetVC.cell1 rfl o21 2 rfl ty24 rfl rfl ?_
    exact ⟨rfl, Own.sel (by assumption) [] rfl⟩
  | true =>
  refine Br.ff ?_
  refine StillVC.run (StillVC.loadON o1 1 rfl ty24 rfl rfl rfl ?_)
  refine CallVC.ret (validR_spec (b1, b2) _ hb) ?_
  rintro _ h2 ⟨rfl, ob⟩
  have o2 := ob.thenE (by assumption)
  cases kb : okP (b1, b2) with
  | false =>
    rw [show divR (a1, a2) (b1, b2) = ((0, 0), 1) from if_neg (fun hc => by rw [kb] at hc; exact Bool.noConfusion hc.2)]
    refine Br.tt ?_
    refine StillVC.run (StillVC.buildK st24 ?_)
    (refine RunVC.storeL o2 2 rfl ty24 rfl (by decide) (And.intro ⟨rfl, rfl⟩ ?_); intro m41 o41)
    first | refine RetVC.cell2 rfl o41 2 rfl ty24 rfl rfl ?_ | refine RetVC.cell1 rfl o41 2 rfl ty24 rfl rfl ?_
    exact ⟨rfl, Own.sel (by assumption) [] rfl⟩
  | true =>
  obtain ⟨r1, r2, r3, r4⟩ := okP_rng ka
  obtain ⟨s1, s2, s3, s4⟩ := okP_rng kb
  simp only at r1 r2 r3 r4 s1 s2 s3 s4
  have hw : a1.natAbs ≤ 1000000000 := by omega
  have hx : a2.natAbs ≤ 1000000000 := by omega
  have hy : b1.natAbs ≤ 1000000000 := by omega
  have hz : b2.natAbs ≤ 1000000000 := by omega
  have bn : a1.natAbs * b2.natAbs ≤ 1000000000 * 1000000000 := Nat.mul_le_mul hw hz
  have bd : a2.natAbs * b1.natAbs ≤ 1000000000 * 1000000000 := Nat.mul_le_mul hx hy
  refine Br.ff ?_
  refine DrawVC.intro [0, 2, 3, 5, 6, 7, 10, 13, 14, 17, 20, 22, 23, 25] [1, 4, 8, 11, 15, 18] [21, 24] [0, 1, 2, 3, 4, 5, 6, 7, 8, 10, 11, 14, 15, 17, 18, 9, 12, 13, 16, 19, 20, 21, 22, 23, 24, 25] mixed (by kernel_rfl) rfl (fun _ _ _ _ h => h) ?_
  refine StillVC.fieldAddr st24 rfl rfl rfl ?_
  refine StillVC.loadO o2 0 rfl ty3 rfl rfl ?_
  refine StillVC.fieldAddr st24 rfl rfl rfl ?_
  refine StillVC.loadO o2 1 rfl ty3 rfl rfl ?_
  refine StillVC.neB bool4 rfl rfl ?_
  refine StillVC.fieldAddr st24 rfl rfl rfl ?_
  refine StillVC.loadO o2 0 rfl ty3 rfl rfl ?_
  refine StillVC.fieldAddr st24 rfl rfl rfl ?_
  refine StillVC.loadO o2 1 rfl ty3 rfl rfl ?_
  refine StillVC.fieldAddr st24 rfl rfl rfl ?_
  refine StillVC.loadO o2 0 rfl ty3 rfl rfl ?_
  refine StillVC.fieldAddr st24 rfl rfl rfl ?_
  refine StillVC.loadO o2 1 rfl ty3 rfl rfl ?_
  refine CallVC.ret (size_spec a1 _ (by omega) (by omega)) ?_
  rintro _ h3 ⟨rfl, oc3⟩
  have p3 := oc3.thenE (by assumption)
  refine And.intro oc3.ext ?_
  refine CallVC.ret (size_spec b2 _ (by omega) (by omega)) ?_
  rintro _ h4 ⟨rfl, oc4⟩
  have p4 := oc4.thenE (by assumption)
  refine And.intro oc4.ext ?_
  refine Ar.u64 (by omega) (by omega) ?_
  refine CallVC.ret (size_spec a2 _ (by omega) (by omega)) ?_
  rintro _ h5 ⟨rfl, oc5⟩
  have p5 := oc5.thenE (by assumption)
  refine And.intro oc5.ext ?_
  refine CallVC.ret (size_spec b1 _ (by omega) (by omega)) ?_
  rintro _ h6 ⟨rfl, oc6⟩
  have p6 := oc6.thenE (by assumption)
  refine And.intro oc6.ext ?_
  refine Ar.u64 (by omega) (by omega) ?_
  refine CallVC.ret (ofR_spec _ (a1.natAbs * b2.natAbs) (a2.natAbs * b1.natAbs) _ (by omega) (by omega)) ?_
  rintro _ h7 ⟨rfl, oc7⟩
  have p7 := oc7.thenE (by assumption)
  have hR : (if a2.natAbs * b1.natAbs = 0 then ((0, 0), 1) else reducedR (!decide (decide (a1 < 0) = decide (b1 < 0))) (a1.natAbs * b2.natAbs) (a2.natAbs * b1.natAbs)) = divR (a1, a2) (b1, b2) := by
    by_cases hb0 : b1 = 0
    · rw [divR_zero ka kb hb0, if_pos (by rw [hb0]; simp)]
    · have pd : 0 < a2.natAbs * b1.natAbs := Nat.mul_pos (by omega) (by omega)
      rw [if_neg (by omega), divR_ok ka kb hb0, reducedR_pack _ _ _ pd, ← ofP_div]
      have key := divInt_of_natAbs a1 b2 a2 b1 a1.natAbs b2.natAbs b1.natAbs (a1.natAbs * b2.natAbs) (a2.natAbs * b1.natAbs) 1 1 rfl rfl rfl r1 hb0 (by omega) (by omega) (by omega)
      have h2 : decide (b2 < 0) = false := decide_eq_false (by omega)
      rw [h2] at key
      have h3 : (!decide (false = decide (b1 < 0))) = decide (b1 < 0) := by cases decide (b1 < 0) <;> rfl
      rw [h3] at key
      rw [key]
  rw [hR]
  generalize divR (a1, a2) (b1, b2) = R
  obtain ⟨⟨u, v⟩, c⟩ := R
  (refine RunVC.storeL p7 2 rfl ty24 rfl (by decide) (And.intro ⟨rfl, rfl⟩ ?_); intro m100 o100)
  first | refine RetVC.cell2 rfl o100 2 rfl ty24 rfl rfl ?_ | refine RetVC.cell1 rfl o100 2 rfl ty24 rfl rfl ?_
  exact ⟨rfl, Own.sel (by assumption) [] rfl⟩

end Go.Proofs.YtemijanhigjmmaaDoor
