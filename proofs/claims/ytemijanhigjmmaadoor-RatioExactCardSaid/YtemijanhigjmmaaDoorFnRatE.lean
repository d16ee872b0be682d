/-
  The statement RatioExact of chapter 1, walked.
-/
import Derived.Test.YtemijanhigjmmaaDoorStructs
import Derived.Test.YtemijanhigjmmaaDoorFnRatPack2
namespace Go.Proofs.YtemijanhigjmmaaDoor
open Go

theorem StillVC.max4 {P : Program} {ty : TypeId} {s : List Value} {h : Heap} {K : KK} {pr : Bool} {tys : Array TypeId} {x y z v : Operand} {k : IntKind} {a b c d : Int} (hx : ev s x = .int k a) (hy : ev s y = .int k b) (hz : ev s z = .int k c) (hv : ev s v = .int k d) (hk : K (.int k (max (max (max a b) c) d)) false h) : StillVC pr P (.call ⟨.builtin .max, ⟨[x, y, z, v]⟩, tys⟩) ty s h K := by
  refine .pure' _ false (fun w => ?_) hk
  have e (a b : Int) : (if a < b then b else a) = max a b := by split <;> omega
  simp [execOp, resolve, invoke, builtin, hx, hy, hz, hv, Builtin.max_, Builtin.max2, e]

theorem ratE_mk (x y e : Int) : ratE ((x, y), e) = .tuple ⟨[.agg ⟨[.int .i64 x, .int .i64 y]⟩, .int .i64 e]⟩ := rfl

/-- A quotient of small numbers is in range. -/
theorem pack_small (n d : Int) (M N : Int) (hd : 0 < d) (hn : -M ≤ n ∧ n ≤ M) (hN : d ≤ N) (hM : M ≤ 1000000000) (hN2 : N ≤ 1000000000) :
    ∃ x y, packR (Rat.divInt n d) = ((x, y), 0) ∧ okP (x, y) = true ∧ ofP (x, y) = Rat.divInt n d ∧ (-M ≤ x ∧ x ≤ M) ∧ 0 < y ∧ y ≤ N ∧ x * d = n * y := by
  have e1 : (Rat.divInt n d).num = n / (d.gcd n : Nat) := by rw [Rat.num_divInt, Int.sign_eq_one_of_pos hd, Int.one_mul]
  have e2 : (Rat.divInt n d).den = d.natAbs / d.gcd n := by rw [Rat.den_divInt, if_neg (by omega)]
  have hg : 0 < d.gcd n := Int.gcd_pos_of_ne_zero_left _ (by omega)
  have hdv : ((d.gcd n : Nat) : Int) ∣ n := Int.gcd_dvd_right _ _
  obtain ⟨q, hq⟩ := hdv
  generalize d.gcd n = g at *
  have hx : n / (g : Int) = q := by rw [hq]; exact Int.mul_ediv_cancel_left _ (by omega)
  have hqb : q.natAbs ≤ n.natAbs := by
    rw [hq, Int.natAbs_mul]
    exact Nat.le_mul_of_pos_left _ (by omega)
  have hyb : d.natAbs / g ≤ d.natAbs := Nat.div_le_self _ _
  rw [hx] at e1
  have hfit : (Rat.divInt n d).num.natAbs ≤ 1000000000 ∧ (Rat.divInt n d).den ≤ 1000000000 := by rw [e1, e2]; omega
  have hpos := (Rat.divInt n d).den_pos
  refine ⟨(Rat.divInt n d).num, ((Rat.divInt n d).den : Int), if_pos hfit, okP_rat hfit, ofP_rat _, ?_, ?_, ?_, ?_⟩
  · rw [e1]; omega
  · omega
  · rw [e2] at hpos ⊢; omega
  · have := Rat.num_divInt_den (Rat.divInt n d)
    exact (Rat.divInt_eq_divInt_iff (by omega) (by omega)).1 this

set_option maxHeartbeats 8000000 in
set_option maxRecDepth 100000 in
theorem exact_spec (a b : Int × Int) (h : Heap) (ha : i64P a) (hb : i64P b) (ht : TabH h) (hv : VarH h) :
    SpecR Tryd.prog 9 [ratV a, ratV b] h fun v h' => v = .bool true ∧ Own h [] h' := by
  obtain ⟨a1, a2⟩ := a
  obtain ⟨b1, b2⟩ := b
  show SpecR Tryd.prog 9 [.agg ⟨[.int .i64 a1, .int .i64 a2]⟩, .agg ⟨[.int .i64 b1, .int .i64 b2]⟩] h _
  refine Spec.enter Tryd.func9 rfl Tryd.ntmps9 (by kernel_rfl) ?_
  have o0 := Own.refl h
  (refine RunVC.boxO o0 rfl ?_; intro b10 m10 o10)
  (refine RunVC.boxO o10 rfl ?_; intro b11 m11 o11)
  refine CallVC.ret (head_spec _ (ht.ext (Own.ext (by assumption))) (hv.ext (Own.ext (by assumption)))) ?_
  rintro _ h1 ⟨rfl, oc1⟩
  have p1 := oc1.thenE (by assumption)
  refine StillVC.run (StillVC.loadON p1 0 rfl ty24 rfl rfl rfl ?_)
  refine CallVC.ret (valid_spec (a1, a2) _ ha) ?_
  rintro _ h2 ⟨rfl, oc2⟩
  have p2 := oc2.thenE (by assumption)
  cases ka : okP (a1, a2) with
  | false =>
    refine Br.tt ?_
    refine Br.tt ?_
    refine RetVC.one rfl ?_
    exact ⟨rfl, Own.sel (by assumption) [] rfl⟩
  | true =>
  refine Br.ff ?_
  refine StillVC.run (StillVC.loadON p2 1 rfl ty24 rfl rfl rfl ?_)
  refine CallVC.ret (valid_spec (b1, b2) _ hb) ?_
  rintro _ h3 ⟨rfl, oc3⟩
  have p3 := oc3.thenE (by assumption)
  cases kb : okP (b1, b2) with
  | false =>
    refine Br.tt ?_
    refine Br.tt ?_
    refine RetVC.one rfl ?_
    exact ⟨rfl, Own.sel (by assumption) [] rfl⟩
  | true =>
  obtain ⟨r1, r2, r3, r4⟩ := okP_rng ka
  obtain ⟨s1, s2, s3, s4⟩ := okP_rng kb
  simp only at r1 r2 r3 r4 s1 s2 s3 s4
  by_cases hsm : (-1000 ≤ a1 ∧ a1 ≤ 1000 ∧ -1000 ≤ b1 ∧ b1 ≤ 1000) ∧ a2 ≤ 1000 ∧ b2 ≤ 1000
  · skip
    obtain ⟨⟨t1, t2, t3, t4⟩, t5, t6⟩ := hsm
    have m1 := mul_abs_le (A := 1000) (B := 1000) ⟨t1, t2⟩ ⟨Int.le_of_lt s1, t6⟩
    have m2 := mul_abs_le (A := 1000) (B := 1000) ⟨t3, t4⟩ ⟨Int.le_of_lt r1, t5⟩
    have m3 := mul_abs_le (x := a2) (A := 1000) (B := 1000) ⟨by omega, t5⟩ ⟨Int.le_of_lt s1, t6⟩
    have m4 : -1000000 ≤ a1 * b1 ∧ a1 * b1 ≤ 1000000 := by
      rcases Int.le_total 0 b1 with hb1 | hb1
      · have := mul_abs_le (x := a1) (A := 1000) (B := 1000) ⟨t1, t2⟩ ⟨hb1, t4⟩; omega
      · have := mul_abs_le (x := a1) (y := -b1) (A := 1000) (B := 1000) ⟨t1, t2⟩ ⟨by omega, by omega⟩
        rw [Int.mul_neg] at this
        omega
    have m5 : 0 < a2 * b2 := Int.mul_pos r1 s1
    obtain ⟨x1, x2, hx, kx, _, bx1, bx2, bx3, ex⟩ := pack_small (a1 * b2 + b1 * a2) (a2 * b2) 2000000 1000000 m5 (by omega) (by omega) (by decide) (by decide)
    obtain ⟨y1, y2, hy, ky, _, by1, by2, by3, ey⟩ := pack_small (a1 * b2 - b1 * a2) (a2 * b2) 2000000 1000000 m5 (by omega) (by omega) (by decide) (by decide)
    obtain ⟨z1, z2, hz, kz, _, bz1, bz2, bz3, ez⟩ := pack_small (a1 * b1) (a2 * b2) 2000000 1000000 m5 (by omega) (by omega) (by decide) (by decide)
    rw [ofP_add ka kb] at hx
    rw [ofP_sub ka kb] at hy
    have hmul := ofP_mul (a1, a2) (b1, b2)
    simp only at hmul
    rw [hmul] at hz
    have n1 := mul_abs_le (A := 2000000) (B := 1000000) bx1 ⟨Int.le_of_lt m5, by omega⟩
    have n2 := mul_abs_le (A := 2000000) (B := 1000000) by1 ⟨Int.le_of_lt m5, by omega⟩
    have n3 := mul_abs_le (A := 2000000) (B := 1000000) bz1 ⟨Int.le_of_lt m5, by omega⟩
    have n4 := mul_abs_le (x := a1 * b2 + b1 * a2) (A := 2000000) (B := 1000000) (by omega) ⟨Int.le_of_lt bx2, bx3⟩
    have n5 := mul_abs_le (x := a1 * b2 - b1 * a2) (A := 2000000) (B := 1000000) (by omega) ⟨Int.le_of_lt by2, by3⟩
    have n6 := mul_abs_le (x := a1 * b1) (A := 2000000) (B := 1000000) (by omega) ⟨Int.le_of_lt bz2, bz3⟩
    refine Br.ff ?_
    refine StillVC.run (StillVC.fieldAddr st24 rfl rfl rfl ?_)
    refine StillVC.run (StillVC.loadO p3 0 rfl ty3 rfl rfl ?_)
    refine StillVC.run (StillVC.fieldAddr st24 rfl rfl rfl ?_)
    refine StillVC.run (StillVC.loadO p3 0 rfl ty3 rfl rfl ?_)
    refine Ar.i64 (by omega) (by omega) ?_
    refine StillVC.run (StillVC.fieldAddr st24 rfl rfl rfl ?_)
    refine StillVC.run (StillVC.loadO p3 1 rfl ty3 rfl rfl ?_)
    refine StillVC.run (StillVC.fieldAddr st24 rfl rfl rfl ?_)
    refine StillVC.run (StillVC.loadO p3 1 rfl ty3 rfl rfl ?_)
    refine Ar.i64 (by omega) (by omega) ?_
    refine StillVC.run (StillVC.max4 rfl rfl rfl rfl ?_)
    refine Br.dec (fun hc => absurd hc (by omega)) (fun c69 => ?_)
    refine StillVC.run (StillVC.fieldAddr st24 rfl rfl rfl ?_)
    refine StillVC.run (StillVC.loadO p3 0 rfl ty3 rfl rfl ?_)
    refine StillVC.run (StillVC.fieldAddr st24 rfl rfl rfl ?_)
    refine StillVC.run (StillVC.loadO p3 1 rfl ty3 rfl rfl ?_)
    refine StillVC.run (StillVC.max2 rfl rfl ?_)
    refine Br.dec (fun hc => absurd hc (by omega)) (fun c75 => ?_)
    refine StillVC.run (StillVC.loadON p3 0 rfl ty24 rfl rfl rfl ?_)
    refine StillVC.run (StillVC.loadON p3 1 rfl ty24 rfl rfl rfl ?_)
    refine CallVC.ret (add_spec (a1, a2) (b1, b2) _ ha hb) ?_
    rintro _ h4 ⟨rfl, oc4⟩
    have p4 := oc4.thenE (by assumption)
    rw [addR_ok ka kb, hx, ratE_mk]
    (refine RunVC.alloc p4 ty24 ?_; intro b80 m80 o80)
    (refine RunVC.storeL o80 2 rfl ty24 rfl (by decide) (And.intro ⟨rfl, rfl⟩ ?_); intro m81 o81)
    refine StillVC.run (StillVC.loadON o81 0 rfl ty24 rfl rfl rfl ?_)
    refine StillVC.run (StillVC.loadON o81 1 rfl ty24 rfl rfl rfl ?_)
    refine CallVC.ret (sub_spec (a1, a2) (b1, b2) _ ha hb) ?_
    rintro _ h5 ⟨rfl, oc5⟩
    have p5 := oc5.thenE (by assumption)
    rw [subR_ok ka kb, hy, ratE_mk]
    (refine RunVC.alloc p5 ty24 ?_; intro b90 m90 o90)
    (refine RunVC.storeL o90 3 rfl ty24 rfl (by decide) (And.intro ⟨rfl, rfl⟩ ?_); intro m91 o91)
    refine StillVC.run (StillVC.loadON o91 0 rfl ty24 rfl rfl rfl ?_)
    refine StillVC.run (StillVC.loadON o91 1 rfl ty24 rfl rfl rfl ?_)
    refine CallVC.ret (mul_spec (a1, a2) (b1, b2) _ ha hb) ?_
    rintro _ h6 ⟨rfl, oc6⟩
    have p6 := oc6.thenE (by assumption)
    rw [mulR_ok ka kb, hz, ratE_mk]
    by_cases hb0 : b1 = 0
    · subst hb0
      (refine RunVC.alloc p6 ty24 ?_; intro b100 m100 o100)
      (refine RunVC.storeL o100 4 rfl ty24 rfl (by decide) (And.intro ⟨rfl, rfl⟩ ?_); intro m101 o101)
      refine StillVC.run (StillVC.loadON o101 0 rfl ty24 rfl rfl rfl ?_)
      refine StillVC.run (StillVC.loadON o101 1 rfl ty24 rfl rfl rfl ?_)
      refine CallVC.ret (div_spec (a1, a2) (0, b2) _ ha hb) ?_
      rintro _ h7 ⟨rfl, oc7⟩
      have p7 := oc7.thenE (by assumption)
      rw [divR_zero ka kb rfl, ratE_mk]
      (refine RunVC.alloc p7 ty24 ?_; intro b110 m110 o110)
      (refine RunVC.storeL o110 5 rfl ty24 rfl (by decide) (And.intro ⟨rfl, rfl⟩ ?_); intro m111 o111)
      refine StillVC.run (StillVC.fieldAddr st24 rfl rfl rfl ?_)
      refine StillVC.run (StillVC.loadO o111 0 rfl ty3 rfl rfl ?_)
      refine StillVC.run (StillVC.fieldAddr st24 rfl rfl rfl ?_)
      refine StillVC.run (StillVC.loadO o111 1 rfl ty3 rfl rfl ?_)
      refine Ar.i64 (by omega) (by omega) ?_
      refine Br.ff ?_
      refine Br.ff ?_
      refine Br.ff ?_
      refine StillVC.run (StillVC.loadON o111 2 rfl ty24 rfl rfl rfl ?_)
      refine CallVC.ret (valid_spec (x1, x2) _ (okP_i64 kx)) ?_
      rintro _ h8 ⟨rfl, oc8⟩
      have p8 := oc8.thenE (by assumption)
      rw [kx]
      refine Br.ff ?_
      refine StillVC.run (StillVC.loadON p8 3 rfl ty24 rfl rfl rfl ?_)
      refine CallVC.ret (valid_spec (y1, y2) _ (okP_i64 ky)) ?_
      rintro _ h9 ⟨rfl, oc9⟩
      have p9 := oc9.thenE (by assumption)
      rw [ky]
      refine Br.ff ?_
      refine StillVC.run (StillVC.loadON p9 4 rfl ty24 rfl rfl rfl ?_)
      refine CallVC.ret (valid_spec (z1, z2) _ (okP_i64 kz)) ?_
      rintro _ h10 ⟨rfl, oc10⟩
      have p10 := oc10.thenE (by assumption)
      rw [kz]
      refine Br.ff ?_
      refine StillVC.run (StillVC.fieldAddr st24 rfl rfl rfl ?_)
      refine StillVC.run (StillVC.loadO p10 2 rfl ty3 rfl rfl ?_)
      refine Ar.i64 (by omega) (by omega) ?_
      refine StillVC.run (StillVC.fieldAddr st24 rfl rfl rfl ?_)
      refine StillVC.run (StillVC.loadO p10 0 rfl ty3 rfl rfl ?_)
      refine StillVC.run (StillVC.fieldAddr st24 rfl rfl rfl ?_)
      refine StillVC.run (StillVC.loadO p10 1 rfl ty3 rfl rfl ?_)
      refine Ar.i64 (by omega) (by omega) ?_
      refine StillVC.run (StillVC.fieldAddr st24 rfl rfl rfl ?_)
      refine StillVC.run (StillVC.loadO p10 1 rfl ty3 rfl rfl ?_)
      refine StillVC.run (StillVC.fieldAddr st24 rfl rfl rfl ?_)
      refine StillVC.run (StillVC.loadO p10 0 rfl ty3 rfl rfl ?_)
      refine Ar.i64 (by omega) (by omega) ?_
      refine Ar.i64 (by omega) (by omega) ?_
      refine StillVC.run (StillVC.fieldAddr st24 rfl rfl rfl ?_)
      refine StillVC.run (StillVC.loadO p10 2 rfl ty3 rfl rfl ?_)
      refine Ar.i64 (by omega) (by omega) ?_
      refine Br.ndec (fun hc => absurd (by first | omega | assumption | decide | exact rfl) hc) (fun c152 => ?_)
      refine StillVC.run (StillVC.fieldAddr st24 rfl rfl rfl ?_)
      refine StillVC.run (StillVC.loadO p10 3 rfl ty3 rfl rfl ?_)
      refine Ar.i64 (by omega) (by omega) ?_
      refine StillVC.run (StillVC.fieldAddr st24 rfl rfl rfl ?_)
      refine StillVC.run (StillVC.loadO p10 0 rfl ty3 rfl rfl ?_)
      refine StillVC.run (StillVC.fieldAddr st24 rfl rfl rfl ?_)
      refine StillVC.run (StillVC.loadO p10 1 rfl ty3 rfl rfl ?_)
      refine Ar.i64 (by omega) (by omega) ?_
      refine StillVC.run (StillVC.fieldAddr st24 rfl rfl rfl ?_)
      refine StillVC.run (StillVC.loadO p10 1 rfl ty3 rfl rfl ?_)
      refine StillVC.run (StillVC.fieldAddr st24 rfl rfl rfl ?_)
      refine StillVC.run (StillVC.loadO p10 0 rfl ty3 rfl rfl ?_)
      refine Ar.i64 (by omega) (by omega) ?_
      refine Ar.i64 (by omega) (by omega) ?_
      refine StillVC.run (StillVC.fieldAddr st24 rfl rfl rfl ?_)
      refine StillVC.run (StillVC.loadO p10 3 rfl ty3 rfl rfl ?_)
      refine Ar.i64 (by omega) (by omega) ?_
      refine Br.ndec (fun hc => absurd (by first | omega | assumption | decide | exact rfl) hc) (fun c165 => ?_)
      refine StillVC.run (StillVC.fieldAddr st24 rfl rfl rfl ?_)
      refine StillVC.run (StillVC.loadO p10 4 rfl ty3 rfl rfl ?_)
      refine Ar.i64 (by omega) (by omega) ?_
      refine StillVC.run (StillVC.fieldAddr st24 rfl rfl rfl ?_)
      refine StillVC.run (StillVC.loadO p10 0 rfl ty3 rfl rfl ?_)
      refine StillVC.run (StillVC.fieldAddr st24 rfl rfl rfl ?_)
      refine StillVC.run (StillVC.loadO p10 1 rfl ty3 rfl rfl ?_)
      refine Ar.i64 (by omega) (by omega) ?_
      refine StillVC.run (StillVC.fieldAddr st24 rfl rfl rfl ?_)
      refine StillVC.run (StillVC.loadO p10 4 rfl ty3 rfl rfl ?_)
      refine Ar.i64 (by omega) (by omega) ?_
      refine Br.ndec (fun hc => absurd (by first | omega | assumption | decide | exact rfl) hc) (fun c174 => ?_)
      refine StillVC.run (StillVC.fieldAddr st24 rfl rfl rfl ?_)
      refine StillVC.run (StillVC.loadO p10 1 rfl ty3 rfl rfl ?_)
      refine Br.tt ?_
      refine Br.tt ?_
      refine RetVC.one rfl ?_
      exact ⟨by first | rfl | simp, Own.sel (by assumption) [] rfl⟩
    · have k1 := mul_abs_le (x := a1) (A := 1000) (B := 1000) ⟨t1, t2⟩ ⟨Int.le_of_lt s1, t6⟩
      have k2 : -1000000 ≤ b1 * a2 ∧ b1 * a2 ≤ 1000000 := by omega
      rw [Int.mul_comm b1 a2] at k2
      have hq2 : ∃ w1 w2, packR (ofP (a1, a2) / ofP (b1, b2)) = ((w1, w2), 0) ∧ okP (w1, w2) = true ∧ (-1000000 ≤ w1 ∧ w1 ≤ 1000000) ∧ (0 < w2 ∧ w2 ≤ 1000000) ∧ w1 * (a2 * b1) = a1 * b2 * w2 := by
        have hd := ofP_div (a1, a2) (b1, b2)
        simp only at hd
        rw [← hd]
        rcases Int.lt_or_gt_of_ne hb0 with hneg | hpos
        · have p0 : 0 < a2 * -b1 := Int.mul_pos r1 (by omega)
          rw [Int.mul_neg] at p0
          obtain ⟨w1, w2, h1, h2, _, h3, h4, h5, h6⟩ := pack_small (-(a1 * b2)) (-(a2 * b1)) 1000000 1000000 p0 (by omega) (by omega) (by decide) (by decide)
          rw [Rat.neg_divInt_neg] at h1
          rw [Int.mul_neg, Int.neg_mul] at h6
          exact ⟨w1, w2, h1, h2, h3, ⟨h4, h5⟩, Int.neg_inj.1 h6⟩
        · have p0 : 0 < a2 * b1 := Int.mul_pos r1 hpos
          obtain ⟨w1, w2, h1, h2, _, h3, h4, h5, h6⟩ := pack_small (a1 * b2) (a2 * b1) 1000000 1000000 p0 (by omega) (by omega) (by decide) (by decide)
          exact ⟨w1, w2, h1, h2, h3, ⟨h4, h5⟩, h6⟩
      obtain ⟨w1, w2, hw, kw, bw1, bw2, ew⟩ := hq2
      have n7 : -1000000000000 ≤ w1 * (a2 * b1) ∧ w1 * (a2 * b1) ≤ 1000000000000 := by
        have := mul_abs_le (x := a1 * b2) (y := w2) (A := 1000000) (B := 1000000) (by omega) ⟨Int.le_of_lt bw2.1, bw2.2⟩
        omega
      have n8 := mul_abs_le (x := a1 * b2) (y := w2) (A := 1000000) (B := 1000000) (by omega) ⟨Int.le_of_lt bw2.1, bw2.2⟩
      (refine RunVC.alloc p6 ty24 ?_; intro b200 m200 o200)
      (refine RunVC.storeL o200 4 rfl ty24 rfl (by decide) (And.intro ⟨rfl, rfl⟩ ?_); intro m201 o201)
      refine StillVC.run (StillVC.loadON o201 0 rfl ty24 rfl rfl rfl ?_)
      refine StillVC.run (StillVC.loadON o201 1 rfl ty24 rfl rfl rfl ?_)
      refine CallVC.ret (div_spec (a1, a2) (b1, b2) _ ha hb) ?_
      rintro _ h7 ⟨rfl, oc7⟩
      have p7 := oc7.thenE (by assumption)
      rw [divR_ok ka kb hb0, hw, ratE_mk]
      (refine RunVC.alloc p7 ty24 ?_; intro b210 m210 o210)
      (refine RunVC.storeL o210 5 rfl ty24 rfl (by decide) (And.intro ⟨rfl, rfl⟩ ?_); intro m211 o211)
      refine StillVC.run (StillVC.fieldAddr st24 rfl rfl rfl ?_)
      refine StillVC.run (StillVC.loadO o211 0 rfl ty3 rfl rfl ?_)
      refine StillVC.run (StillVC.fieldAddr st24 rfl rfl rfl ?_)
      refine StillVC.run (StillVC.loadO o211 1 rfl ty3 rfl rfl ?_)
      refine Ar.i64 (by omega) (by omega) ?_
      refine Br.ff ?_
      refine Br.ff ?_
      refine Br.ff ?_
      refine StillVC.run (StillVC.loadON o211 2 rfl ty24 rfl rfl rfl ?_)
      refine CallVC.ret (valid_spec (x1, x2) _ (okP_i64 kx)) ?_
      rintro _ h8 ⟨rfl, oc8⟩
      have p8 := oc8.thenE (by assumption)
      rw [kx]
      refine Br.ff ?_
      refine StillVC.run (StillVC.loadON p8 3 rfl ty24 rfl rfl rfl ?_)
      refine CallVC.ret (valid_spec (y1, y2) _ (okP_i64 ky)) ?_
      rintro _ h9 ⟨rfl, oc9⟩
      have p9 := oc9.thenE (by assumption)
      rw [ky]
      refine Br.ff ?_
      refine StillVC.run (StillVC.loadON p9 4 rfl ty24 rfl rfl rfl ?_)
      refine CallVC.ret (valid_spec (z1, z2) _ (okP_i64 kz)) ?_
      rintro _ h10 ⟨rfl, oc10⟩
      have p10 := oc10.thenE (by assumption)
      rw [kz]
      refine Br.ff ?_
      refine StillVC.run (StillVC.fieldAddr st24 rfl rfl rfl ?_)
      refine StillVC.run (StillVC.loadO p10 2 rfl ty3 rfl rfl ?_)
      refine Ar.i64 (by omega) (by omega) ?_
      refine StillVC.run (StillVC.fieldAddr st24 rfl rfl rfl ?_)
      refine StillVC.run (StillVC.loadO p10 0 rfl ty3 rfl rfl ?_)
      refine StillVC.run (StillVC.fieldAddr st24 rfl rfl rfl ?_)
      refine StillVC.run (StillVC.loadO p10 1 rfl ty3 rfl rfl ?_)
      refine Ar.i64 (by omega) (by omega) ?_
      refine StillVC.run (StillVC.fieldAddr st24 rfl rfl rfl ?_)
      refine StillVC.run (StillVC.loadO p10 1 rfl ty3 rfl rfl ?_)
      refine StillVC.run (StillVC.fieldAddr st24 rfl rfl rfl ?_)
      refine StillVC.run (StillVC.loadO p10 0 rfl ty3 rfl rfl ?_)
      refine Ar.i64 (by omega) (by omega) ?_
      refine Ar.i64 (by omega) (by omega) ?_
      refine StillVC.run (StillVC.fieldAddr st24 rfl rfl rfl ?_)
      refine StillVC.run (StillVC.loadO p10 2 rfl ty3 rfl rfl ?_)
      refine Ar.i64 (by omega) (by omega) ?_
      refine Br.ndec (fun hc => absurd (by first | omega | assumption | decide | exact rfl) hc) (fun c252 => ?_)
      refine StillVC.run (StillVC.fieldAddr st24 rfl rfl rfl ?_)
      refine StillVC.run (StillVC.loadO p10 3 rfl ty3 rfl rfl ?_)
      refine Ar.i64 (by omega) (by omega) ?_
      refine StillVC.run (StillVC.fieldAddr st24 rfl rfl rfl ?_)
      refine StillVC.run (StillVC.loadO p10 0 rfl ty3 rfl rfl ?_)
      refine StillVC.run (StillVC.fieldAddr st24 rfl rfl rfl ?_)
      refine StillVC.run (StillVC.loadO p10 1 rfl ty3 rfl rfl ?_)
      refine Ar.i64 (by omega) (by omega) ?_
      refine StillVC.run (StillVC.fieldAddr st24 rfl rfl rfl ?_)
      refine StillVC.run (StillVC.loadO p10 1 rfl ty3 rfl rfl ?_)
      refine StillVC.run (StillVC.fieldAddr st24 rfl rfl rfl ?_)
      refine StillVC.run (StillVC.loadO p10 0 rfl ty3 rfl rfl ?_)
      refine Ar.i64 (by omega) (by omega) ?_
      refine Ar.i64 (by omega) (by omega) ?_
      refine StillVC.run (StillVC.fieldAddr st24 rfl rfl rfl ?_)
      refine StillVC.run (StillVC.loadO p10 3 rfl ty3 rfl rfl ?_)
      refine Ar.i64 (by omega) (by omega) ?_
      refine Br.ndec (fun hc => absurd (by first | omega | assumption | decide | exact rfl) hc) (fun c265 => ?_)
      refine StillVC.run (StillVC.fieldAddr st24 rfl rfl rfl ?_)
      refine StillVC.run (StillVC.loadO p10 4 rfl ty3 rfl rfl ?_)
      refine Ar.i64 (by omega) (by omega) ?_
      refine StillVC.run (StillVC.fieldAddr st24 rfl rfl rfl ?_)
      refine StillVC.run (StillVC.loadO p10 0 rfl ty3 rfl rfl ?_)
      refine StillVC.run (StillVC.fieldAddr st24 rfl rfl rfl ?_)
      refine StillVC.run (StillVC.loadO p10 1 rfl ty3 rfl rfl ?_)
      refine Ar.i64 (by omega) (by omega) ?_
      refine StillVC.run (StillVC.fieldAddr st24 rfl rfl rfl ?_)
      refine StillVC.run (StillVC.loadO p10 4 rfl ty3 rfl rfl ?_)
      refine Ar.i64 (by omega) (by omega) ?_
      refine Br.ndec (fun hc => absurd (by first | omega | assumption | decide | exact rfl) hc) (fun c274 => ?_)
      refine StillVC.run (StillVC.fieldAddr st24 rfl rfl rfl ?_)
      refine StillVC.run (StillVC.loadO p10 1 rfl ty3 rfl rfl ?_)
      refine Br.dec (fun hc => absurd hc (by omega)) (fun c277 => ?_)
      refine Br.tt ?_
      refine Br.tt ?_
      refine StillVC.run (StillVC.loadON p10 5 rfl ty24 rfl rfl rfl ?_)
      refine CallVC.ret (valid_spec (w1, w2) _ (okP_i64 kw)) ?_
      rintro _ h11 ⟨rfl, oc11⟩
      have p11 := oc11.thenE (by assumption)
      rw [kw]
      refine Br.tt ?_
      refine StillVC.run (StillVC.fieldAddr st24 rfl rfl rfl ?_)
      refine StillVC.run (StillVC.loadO p11 5 rfl ty3 rfl rfl ?_)
      refine StillVC.run (StillVC.fieldAddr st24 rfl rfl rfl ?_)
      refine StillVC.run (StillVC.loadO p11 0 rfl ty3 rfl rfl ?_)
      refine StillVC.run (StillVC.fieldAddr st24 rfl rfl rfl ?_)
      refine StillVC.run (StillVC.loadO p11 1 rfl ty3 rfl rfl ?_)
      refine Ar.i64 (by omega) (by omega) ?_
      refine Ar.i64 (by omega) (by omega) ?_
      refine StillVC.run (StillVC.fieldAddr st24 rfl rfl rfl ?_)
      refine StillVC.run (StillVC.loadO p11 0 rfl ty3 rfl rfl ?_)
      refine StillVC.run (StillVC.fieldAddr st24 rfl rfl rfl ?_)
      refine StillVC.run (StillVC.loadO p11 1 rfl ty3 rfl rfl ?_)
      refine Ar.i64 (by omega) (by omega) ?_
      refine StillVC.run (StillVC.fieldAddr st24 rfl rfl rfl ?_)
      refine StillVC.run (StillVC.loadO p11 5 rfl ty3 rfl rfl ?_)
      refine Ar.i64 (by omega) (by omega) ?_
      refine RetVC.one rfl ?_
      exact ⟨by first | rfl | simp [ew], Own.sel (by assumption) [] rfl⟩
  · refine Br.ff ?_
    refine StillVC.run (StillVC.fieldAddr st24 rfl rfl rfl ?_)
    refine StillVC.run (StillVC.loadO p3 0 rfl ty3 rfl rfl ?_)
    refine StillVC.run (StillVC.fieldAddr st24 rfl rfl rfl ?_)
    refine StillVC.run (StillVC.loadO p3 0 rfl ty3 rfl rfl ?_)
    refine Ar.i64 (by omega) (by omega) ?_
    refine StillVC.run (StillVC.fieldAddr st24 rfl rfl rfl ?_)
    refine StillVC.run (StillVC.loadO p3 1 rfl ty3 rfl rfl ?_)
    refine StillVC.run (StillVC.fieldAddr st24 rfl rfl rfl ?_)
    refine StillVC.run (StillVC.loadO p3 1 rfl ty3 rfl rfl ?_)
    refine Ar.i64 (by omega) (by omega) ?_
    refine StillVC.run (StillVC.max4 rfl rfl rfl rfl ?_)
    refine Br.dec (fun c99 => ?_) (fun c99 => ?_)
    refine Br.tt ?_
    refine RetVC.one rfl ?_
    rotate_left
    refine StillVC.run (StillVC.fieldAddr st24 rfl rfl rfl ?_)
    refine StillVC.run (StillVC.loadO p3 0 rfl ty3 rfl rfl ?_)
    refine StillVC.run (StillVC.fieldAddr st24 rfl rfl rfl ?_)
    refine StillVC.run (StillVC.loadO p3 1 rfl ty3 rfl rfl ?_)
    refine StillVC.run (StillVC.max2 rfl rfl ?_)
    refine Br.dec (fun c105 => ?_) (fun hc => absurd (by omega) hc)
    refine RetVC.one rfl ?_
    all_goals exact ⟨rfl, Own.sel (by assumption) [] rfl⟩

end Go.Proofs.YtemijanhigjmmaaDoor
