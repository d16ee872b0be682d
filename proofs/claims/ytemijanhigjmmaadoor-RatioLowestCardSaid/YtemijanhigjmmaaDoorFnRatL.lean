/-
  The statement RatioLowest of chapter 1, walked.
-/
import Derived.Test.YtemijanhigjmmaaDoorStructs
import Derived.Test.YtemijanhigjmmaaDoorFnRatRef
namespace Go.Proofs.YtemijanhigjmmaaDoor
open Go

theorem ratT_mk (x y e : Int) : Value.tuple ⟨[ratV ((x, y), e).1, .int .i64 ((x, y), e).2]⟩ = .tuple ⟨[.agg ⟨[.int .i64 x, .int .i64 y]⟩, .int .i64 e]⟩ := rfl

theorem tmodB (n m : Int) (hm : 0 < m) : -m < n.tmod m ∧ n.tmod m < m := ⟨Int.lt_tmod_of_pos n hm, Int.tmod_lt_of_pos n hm⟩

set_option maxHeartbeats 4000000 in
set_option maxRecDepth 100000 in
theorem lowest_spec (num den : Int) (h : Heap) (ht : TabH h) (hv : VarH h) :
    SpecR Tryd.prog 3 [.int .i64 num, .int .i64 den] h fun v h' => v = .bool true ∧ Own h [] h' := by
  obtain ⟨n0, n1⟩ := tmodB num 2000000001 (by decide)
  obtain ⟨d0, d1⟩ := tmodB den 2000000001 (by decide)
  refine Spec.enter Tryd.func3 rfl Tryd.ntmps3 (by kernel_rfl) ?_
  have o0 := Own.refl h
  refine CallVC.ret (head_spec _ (ht.ext (Own.ext (by assumption))) (hv.ext (Own.ext (by assumption)))) ?_
  rintro _ h1 ⟨rfl, oc1⟩
  have p1 := oc1.thenE (by assumption)
  refine StillVC.run (StillVC.rem rfl rfl (by decide) ?_)
  refine StillVC.run (StillVC.rem rfl rfl (by decide) ?_)
  refine CallVC.ret (ratioMake_spec (num.tmod 2000000001) (den.tmod 2000000001) _ (by omega) (by omega) (by omega) (by omega)) ?_
  rintro _ h2 ⟨rfl, oc2⟩
  have p2 := oc2.thenE (by assumption)
  generalize num.tmod 2000000001 = n at *
  generalize den.tmod 2000000001 = d at *
  by_cases hd : d = 0
  · subst hd
    rw [show ratioR n 0 = ((0, 0), 1) from if_pos rfl]
    (refine RunVC.alloc p2 ty24 ?_; intro b30 m30 o30)
    (refine RunVC.storeL o30 0 rfl ty24 rfl (by decide) (And.intro ⟨rfl, rfl⟩ ?_); intro m31 o31)
    refine Br.tt ?_
    refine Br.tt ?_
    refine Br.tt ?_
    refine StillVC.run (StillVC.loadON o31 0 rfl ty24 rfl rfl rfl ?_)
    refine StillVC.run (StillVC.buildK st24 ?_)
    refine StillVC.run (StillVC.eqS pl24 rfl rfl rfl rfl ?_)
    refine RetVC.one rfl ?_
    exact ⟨by first | rfl | simp, Own.sel (by assumption) [] rfl⟩
  have hg0 : 0 < Nat.gcd n.natAbs d.natAbs := Nat.gcd_pos_of_pos_right _ (by omega)
  have hR : ratioR n d = if 1000000000 < n.natAbs / Nat.gcd n.natAbs d.natAbs ∨ 1000000000 < d.natAbs / Nat.gcd n.natAbs d.natAbs then ((0, 0), 2)
      else ((if (!decide (decide (n < 0) = decide (d < 0))) = true then -((n.natAbs / Nat.gcd n.natAbs d.natAbs : Nat) : Int) else (n.natAbs / Nat.gcd n.natAbs d.natAbs : Nat), ((d.natAbs / Nat.gcd n.natAbs d.natAbs : Nat) : Int)), 0) := if_neg hd
  have hbN : n.natAbs / Nat.gcd n.natAbs d.natAbs ≤ n.natAbs := Nat.div_le_self _ _
  have hbD : d.natAbs / Nat.gcd n.natAbs d.natAbs ≤ d.natAbs := Nat.div_le_self _ _
  have mx : ∀ z : Int, max z (0 - z) = (z.natAbs : Int) := fun z => by omega
  have hP := packR_cases (Rat.divInt n d)
  rw [← ratioR_pack hd, hR] at hP
  rw [hR]
  generalize (if (!decide (decide (n < 0) = decide (d < 0))) = true then -((n.natAbs / Nat.gcd n.natAbs d.natAbs : Nat) : Int) else (n.natAbs / Nat.gcd n.natAbs d.natAbs : Nat)) = sN at *
  have eN : (n.natAbs : Int) / ((Nat.gcd n.natAbs d.natAbs : Nat) : Int) = ((n.natAbs / Nat.gcd n.natAbs d.natAbs : Nat) : Int) := by rw [Int.natCast_ediv]
  have eD : (d.natAbs : Int) / ((Nat.gcd n.natAbs d.natAbs : Nat) : Int) = ((d.natAbs / Nat.gcd n.natAbs d.natAbs : Nat) : Int) := by rw [Int.natCast_ediv]
  have eN2 : max n (0 - n) / ((Nat.gcd n.natAbs d.natAbs : Nat) : Int) = ((n.natAbs / Nat.gcd n.natAbs d.natAbs : Nat) : Int) := by rw [mx]; exact eN
  have eD2 : max d (0 - d) / ((Nat.gcd n.natAbs d.natAbs : Nat) : Int) = ((d.natAbs / Nat.gcd n.natAbs d.natAbs : Nat) : Int) := by rw [mx]; exact eD
  have hgb : Nat.gcd n.natAbs d.natAbs ≤ d.natAbs := Nat.gcd_le_right _ (by omega)
  have hx := fun h => gcd_spec n.natAbs d.natAbs h (by omega) (by omega)
  generalize n.natAbs / Nat.gcd n.natAbs d.natAbs = N at *
  generalize d.natAbs / Nat.gcd n.natAbs d.natAbs = D at *
  by_cases hbig : 1000000000 < N ∨ 1000000000 < D
  · rw [if_pos hbig]
    (refine RunVC.alloc p2 ty24 ?_; intro b50 m50 o50)
    (refine RunVC.storeL o50 0 rfl ty24 rfl (by decide) (And.intro ⟨rfl, rfl⟩ ?_); intro m51 o51)
    refine Br.dec (fun hc => absurd hc (by omega)) (fun c52 => ?_)
    refine Ar.i64 (by omega) (by omega) ?_
    refine StillVC.run (StillVC.max2 rfl rfl ?_)
    refine StillVC.run (StillVC.convI rfl int3 int28 ?_)
    refine Ar.u64 (by omega) (by omega) ?_
    refine Ar.i64 (by omega) (by omega) ?_
    refine StillVC.run (StillVC.max2 rfl rfl ?_)
    refine StillVC.run (StillVC.convI rfl int3 int28 ?_)
    refine Ar.u64 (by omega) (by omega) ?_
    rw [mx n, mx d]
    refine CallVC.ret (hx _) ?_
    rintro _ h3 ⟨rfl, oc3⟩
    have p3 := oc3.thenE (by assumption)
    simp only [mx n, mx d]
    refine StillVC.run (StillVC.convI rfl int28 int3 ?_)
    refine Ar.i64 (by omega) (by omega) ?_
    refine Ar.i64 (by omega) (by omega) ?_
    refine StillVC.run (StillVC.max2 rfl rfl ?_)
    refine StillVC.run (StillVC.quoE rfl rfl (by omega) (by omega) (by simp [IntKind.max, IntKind.signed, IntKind.bits]; omega) ?_)
    refine Br.dec (fun c63 => ?_) (fun c63 => ?_)
    refine Br.tt ?_
    refine Br.tt ?_
    refine Br.tt ?_
    refine StillVC.run (StillVC.loadON p3 0 rfl ty24 rfl rfl rfl ?_)
    refine StillVC.run (StillVC.buildK st24 ?_)
    refine StillVC.run (StillVC.eqS pl24 rfl rfl rfl rfl ?_)
    refine RetVC.one rfl ?_
    rotate_left
    refine Ar.i64 (by omega) (by omega) ?_
    refine StillVC.run (StillVC.max2 rfl rfl ?_)
    refine StillVC.run (StillVC.quoE rfl rfl (by omega) (by omega) (by simp [IntKind.max, IntKind.signed, IntKind.bits]; omega) ?_)
    refine Br.dec (fun c69 => ?_) (fun hc => absurd (by omega) hc)
    refine Br.tt ?_
    refine Br.tt ?_
    refine StillVC.run (StillVC.loadON p3 0 rfl ty24 rfl rfl rfl ?_)
    refine StillVC.run (StillVC.buildK st24 ?_)
    refine StillVC.run (StillVC.eqS pl24 rfl rfl rfl rfl ?_)
    refine RetVC.one rfl ?_
    all_goals exact ⟨by first | rfl | simp, Own.sel (by assumption) [] rfl⟩
  · rw [if_neg hbig] at hP ⊢
    rw [ratT_mk]
    obtain ⟨p, hp, kp, qp⟩ := hP.resolve_right (fun h => by simp at h)
    obtain rfl : (sN, (D : Int)) = p := by simpa using congrArg Prod.fst hp
    have hkb := okP_rng kp
    simp only at hkb
    have hpr : sN * d = n * D := by
      unfold ofP at qp
      exact (Rat.divInt_eq_divInt_iff (by omega) hd).1 qp
    (refine RunVC.alloc p2 ty24 ?_; intro b150 m150 o150)
    (refine RunVC.storeL o150 0 rfl ty24 rfl (by decide) (And.intro ⟨rfl, rfl⟩ ?_); intro m151 o151)
    refine Br.dec (fun hc => absurd hc (by omega)) (fun c152 => ?_)
    refine Ar.i64 (by omega) (by omega) ?_
    refine StillVC.run (StillVC.max2 rfl rfl ?_)
    refine StillVC.run (StillVC.convI rfl int3 int28 ?_)
    refine Ar.u64 (by omega) (by omega) ?_
    refine Ar.i64 (by omega) (by omega) ?_
    refine StillVC.run (StillVC.max2 rfl rfl ?_)
    refine StillVC.run (StillVC.convI rfl int3 int28 ?_)
    refine Ar.u64 (by omega) (by omega) ?_
    rw [mx n, mx d]
    refine CallVC.ret (hx _) ?_
    rintro _ h3 ⟨rfl, oc3⟩
    have p3 := oc3.thenE (by assumption)
    simp only [mx n, mx d]
    have m1 := mul_abs_le (x := n) (y := D) (A := 2000000000) (B := 1000000000) (by omega) (by omega)
    refine StillVC.run (StillVC.convI rfl int28 int3 ?_)
    refine Ar.i64 (by omega) (by omega) ?_
    refine Ar.i64 (by omega) (by omega) ?_
    refine StillVC.run (StillVC.max2 rfl rfl ?_)
    refine StillVC.run (StillVC.quoE rfl rfl (by omega) (by omega) (by simp [IntKind.max, IntKind.signed, IntKind.bits]; omega) ?_)
    refine Br.dec (fun hc => absurd hc (by omega)) (fun c163 => ?_)
    refine Ar.i64 (by omega) (by omega) ?_
    refine StillVC.run (StillVC.max2 rfl rfl ?_)
    refine StillVC.run (StillVC.quoE rfl rfl (by omega) (by omega) (by simp [IntKind.max, IntKind.signed, IntKind.bits]; omega) ?_)
    refine Br.dec (fun hc => absurd hc (by omega)) (fun c166 => ?_)
    refine Br.tt ?_
    refine Br.tt ?_
    refine StillVC.run (StillVC.loadON p3 0 rfl ty24 rfl rfl rfl ?_)
    refine CallVC.ret (valid_spec (sN, (D : Int)) _ (okP_i64 kp)) ?_
    rintro _ h4 ⟨rfl, oc4⟩
    have p4 := oc4.thenE (by assumption)
    rw [kp]
    refine Br.tt ?_
    refine StillVC.run (StillVC.fieldAddr st24 rfl rfl rfl ?_)
    refine StillVC.run (StillVC.loadO p4 0 rfl ty3 rfl rfl ?_)
    refine Ar.i64 (by omega) (by omega) ?_
    refine StillVC.run (StillVC.fieldAddr st24 rfl rfl rfl ?_)
    refine StillVC.run (StillVC.loadO p4 0 rfl ty3 rfl rfl ?_)
    refine Ar.i64 (by omega) (by omega) ?_
    refine Br.dec (fun c184 => ?_) (fun hc => absurd (by omega) hc)
    refine StillVC.run (StillVC.fieldAddr st24 rfl rfl rfl ?_)
    refine StillVC.run (StillVC.loadO p4 0 rfl ty3 rfl rfl ?_)
    refine RetVC.one rfl ?_
    exact ⟨congrArg Value.bool (decide_eq_true (by omega)), Own.sel (by assumption) [] rfl⟩

end Go.Proofs.YtemijanhigjmmaaDoor
