/-
  Validity, sums, products, quotients and comparisons of ratios.
-/
import Derived.Test.YtemijanhigjmmaaDoorStructs
import Derived.Test.YtemijanhigjmmaaDoorFnRatQ
import Derived.Test.YtemijanhigjmmaaDoorShelf
namespace Go.Proofs.YtemijanhigjmmaaDoor
open Go

def i64P (a : Int × Int) : Prop := (-9223372036854775808 ≤ a.1 ∧ a.1 ≤ 9223372036854775807) ∧ -9223372036854775808 ≤ a.2 ∧ a.2 ≤ 9223372036854775807
def ratE (r : (Int × Int) × Int) : Value := .tuple ⟨[ratV r.1, .int .i64 r.2]⟩

theorem gcd2 (x y : Nat) : [x, y].foldl Nat.gcd 0 = Nat.gcd x y := by simp

set_option maxRecDepth 100000 in
theorem valid_spec (a : Int × Int) (h : Heap) (ha : i64P a) :
    SpecR Tryd.prog 13 [ratV a] h fun r h' => r = .bool (okP a) ∧ Own h [] h' := by
  obtain ⟨x, y⟩ := a
  obtain ⟨⟨x0, x1⟩, y0, y1⟩ := ha
  simp only at x0 x1 y0 y1
  have hok : okP (x, y) = decide (0 < y ∧ y ≤ 1000000000 ∧ x.natAbs ≤ 1000000000 ∧ Nat.gcd x.natAbs y.natAbs = 1) := rfl
  show SpecR Tryd.prog 13 [.agg ⟨[.int .i64 x, .int .i64 y]⟩] h fun r h' => r = .bool (okP (x, y)) ∧ Own h [] h'
  refine Spec.enter Tryd.func13 rfl Tryd.ntmps13 (by kernel_rfl) ?_
  have o0 := Own.refl h
  by_cases hy : 0 < y ∧ y ≤ 1000000000
  · obtain ⟨hy1, hy2⟩ := hy
    (refine RunVC.boxO o0 rfl ?_; intro b10 m10 o10)
    refine DrawVC.intro [0, 2, 3, 4, 6, 7, 8, 9, 12, 13, 14, 15, 18, 23, 24, 25] [1, 5, 10, 16, 19] [20, 21, 22] [0, 1, 2, 3, 4, 5, 6, 7, 8, 9, 10, 11, 12, 13, 14, 15, 16, 18, 19, 17, 20, 21, 22, 23, 24, 25] mixed (by kernel_rfl) rfl (fun _ _ _ _ h => h) ?_
    refine StillVC.fieldAddr st24 rfl rfl rfl ?_
    refine StillVC.loadO o10 0 rfl ty3 rfl rfl ?_
    refine Br.dec (fun c13 => ?_) (fun hc => absurd (by omega) hc)
    refine StillVC.fieldAddr st24 rfl rfl rfl ?_
    refine StillVC.loadO o10 0 rfl ty3 rfl rfl ?_
    refine Br.dec (fun c16 => ?_) (fun hc => absurd (by omega) hc)
    refine StillVC.fieldAddr st24 rfl rfl rfl ?_
    refine StillVC.loadO o10 0 rfl ty3 rfl rfl ?_
    refine CallVC.ret (magnitude_spec x _ x0 x1) ?_
    rintro _ h1 ⟨rfl, oa⟩
    have o1 := o10.ext' oa
    by_cases hx : x.natAbs ≤ 1000000000
    · refine And.intro oa.ext ?_
      refine Br.dec (fun c20 => ?_) (fun hc => absurd (by omega) hc)
      refine StillVC.fieldAddr st24 rfl rfl rfl ?_
      refine StillVC.loadO o1 0 rfl ty3 rfl rfl ?_
      refine StillVC.fieldAddr st24 rfl rfl rfl ?_
      refine StillVC.loadO o1 0 rfl ty3 rfl rfl ?_
      refine CallVC.ret (magnitude_spec x _ x0 x1) ?_
      rintro _ h2 ⟨rfl, ob⟩
      have o2 := o1.ext' ob
      refine And.intro ob.ext ?_
      refine CallVC.ret (magnitude_spec y _ y0 y1) ?_
      rintro _ h3 ⟨rfl, oc⟩
      have o3 := o2.ext' oc
      (refine RunVC.lit o3 sl58 ty28 rfl rfl (by decide) (And.intro rfl ?_); intro b40 m40 o40)
      refine CallVC.ret (common_spec [x.natAbs, y.natAbs] _ _ (o40.boxArr 1 rfl rfl (Nat.le_refl _)) (by simp) (by simp; omega)) ?_
      rintro _ h4 ⟨rfl, od⟩
      have o4 := o40.ext' od
      rw [gcd2]
      by_cases hg : Nat.gcd x.natAbs y.natAbs = 1
      · rw [hok, decide_eq_true (show 0 < y ∧ y ≤ 1000000000 ∧ x.natAbs ≤ 1000000000 ∧ Nat.gcd x.natAbs y.natAbs = 1 from ⟨hy1, hy2, hx, hg⟩)]
        refine RetVC.one rfl ?_
        exact ⟨congrArg Value.bool (decide_eq_true (by omega)), Own.sel (by assumption) [] rfl⟩
      · rw [hok, decide_eq_false (show ¬ (0 < y ∧ y ≤ 1000000000 ∧ x.natAbs ≤ 1000000000 ∧ Nat.gcd x.natAbs y.natAbs = 1) from fun hc => hg hc.2.2.2)]
        refine RetVC.one rfl ?_
        exact ⟨congrArg Value.bool (decide_eq_false (by omega)), Own.sel (by assumption) [] rfl⟩
    · rw [hok, decide_eq_false (show ¬ (0 < y ∧ y ≤ 1000000000 ∧ x.natAbs ≤ 1000000000 ∧ Nat.gcd x.natAbs y.natAbs = 1) from fun hc => hx hc.2.2.1)]
      refine And.intro oa.ext ?_
      refine Br.dec (fun hc => absurd hc (by omega)) (fun c70 => ?_)
      refine RetVC.one rfl ?_
      exact ⟨rfl, Own.sel (by assumption) [] rfl⟩
  · rw [hok, decide_eq_false (show ¬ (0 < y ∧ y ≤ 1000000000 ∧ x.natAbs ≤ 1000000000 ∧ Nat.gcd x.natAbs y.natAbs = 1) from fun hc => hy ⟨hc.1, hc.2.1⟩)]
    (refine RunVC.boxO o0 rfl ?_; intro b80 m80 o80)
    refine DrawVC.intro [0, 2, 3, 4, 6, 7, 8, 9, 12, 13, 14, 15, 18, 23, 24, 25] [1, 5, 10, 16, 19] [20, 21, 22] [0, 1, 2, 3, 4, 5, 6, 7, 8, 9, 10, 11, 12, 13, 14, 15, 16, 18, 19, 17, 20, 21, 22, 23, 24, 25] mixed (by kernel_rfl) rfl (fun _ _ _ _ h => h) ?_
    refine StillVC.fieldAddr st24 rfl rfl rfl ?_
    refine StillVC.loadO o80 0 rfl ty3 rfl rfl ?_
    refine Br.dec (fun c83 => ?_) (fun c83 => ?_)
    refine StillVC.fieldAddr st24 rfl rfl rfl ?_
    refine StillVC.loadO o80 0 rfl ty3 rfl rfl ?_
    refine Br.dec (fun hc => absurd hc (by omega)) (fun c86 => ?_)
    refine RetVC.one rfl ?_
    rotate_left
    refine RetVC.one rfl ?_
    all_goals exact ⟨rfl, Own.sel (by assumption) [] rfl⟩

theorem divInt_of_natAbs (a n q d : Int) (w y z P D g k : Nat) (hw : w = a.natAbs) (hy : y = n.natAbs) (hz : z = d.natAbs) (hq : 0 < q) (hd : d ≠ 0) (h1 : P * (g * k) = w * y) (h2 : D * (g * k) = q.natAbs * z) (hg : g * k ≠ 0) :
    mkRat (if (!decide (decide (a < 0) = !decide (decide (n < 0) = decide (d < 0)))) = true then -(P : Int) else P) D = Rat.divInt (a * n) (q * d) := by
  rw [← Rat.mkRat_mul_right hg, h2]
  have e1 : ((if (!decide (decide (a < 0) = !decide (decide (n < 0) = decide (d < 0)))) = true then -(P : Int) else P) * ((g * k : Nat) : Int)) =
      (if (!decide (decide (a < 0) = !decide (decide (n < 0) = decide (d < 0)))) = true then -((w * y : Nat) : Int) else ((w * y : Nat) : Int)) := by
    rw [← h1, Int.natCast_mul P]
    split
    · rw [Int.neg_mul]
    · rfl
  rw [e1]
  subst hw hy hz
  rw [← Rat.divInt_ofNat, Int.natCast_mul, Int.natCast_mul]
  have hq' : ((q.natAbs : Nat) : Int) = q := by omega
  rw [hq']
  rcases Int.lt_or_gt_of_ne hd with hd' | hd'
  · have ed : ((d.natAbs : Nat) : Int) = -d := by omega
    rw [ed, Int.mul_neg, ← Rat.neg_divInt_neg (a * n)]
    congr 1
    by_cases ha : a < 0
    · have ea : ((a.natAbs : Nat) : Int) = -a := by omega
      by_cases hn : n < 0
      · have en : ((n.natAbs : Nat) : Int) = -n := by omega
        rw [ea, en]; simp only [ha, hn, hd', decide_true, decide_false, Bool.not_true, Bool.not_false, Bool.false_eq_true, Bool.true_eq_false, if_true, if_false]; try grind
      · have en : ((n.natAbs : Nat) : Int) = n := by omega
        rw [ea, en]; simp only [ha, hn, hd', decide_true, decide_false, Bool.not_true, Bool.not_false, Bool.false_eq_true, Bool.true_eq_false, if_true, if_false]; try grind
    · have ea : ((a.natAbs : Nat) : Int) = a := by omega
      by_cases hn : n < 0
      · have en : ((n.natAbs : Nat) : Int) = -n := by omega
        rw [ea, en]; simp only [ha, hn, hd', decide_true, decide_false, Bool.not_true, Bool.not_false, Bool.false_eq_true, Bool.true_eq_false, if_true, if_false]; try grind
      · have en : ((n.natAbs : Nat) : Int) = n := by omega
        rw [ea, en]; simp only [ha, hn, hd', decide_true, decide_false, Bool.not_true, Bool.not_false, Bool.false_eq_true, Bool.true_eq_false, if_true, if_false]; try grind
  · have ed : ((d.natAbs : Nat) : Int) = d := by omega
    have hd2 : ¬ d < 0 := by omega
    rw [ed]
    congr 1
    by_cases ha : a < 0
    · have ea : ((a.natAbs : Nat) : Int) = -a := by omega
      by_cases hn : n < 0
      · have en : ((n.natAbs : Nat) : Int) = -n := by omega
        rw [ea, en]; simp only [ha, hn, hd2, decide_true, decide_false, Bool.not_true, Bool.not_false, Bool.false_eq_true, Bool.true_eq_false, if_true, if_false]; try grind
      · have en : ((n.natAbs : Nat) : Int) = n := by omega
        rw [ea, en]; simp only [ha, hn, hd2, decide_true, decide_false, Bool.not_true, Bool.not_false, Bool.false_eq_true, Bool.true_eq_false, if_true, if_false]; try grind
    · have ea : ((a.natAbs : Nat) : Int) = a := by omega
      by_cases hn : n < 0
      · have en : ((n.natAbs : Nat) : Int) = -n := by omega
        rw [ea, en]; simp only [ha, hn, hd2, decide_true, decide_false, Bool.not_true, Bool.not_false, Bool.false_eq_true, Bool.true_eq_false, if_true, if_false]; try grind
      · have en : ((n.natAbs : Nat) : Int) = n := by omega
        rw [ea, en]; simp only [ha, hn, hd2, decide_true, decide_false, Bool.not_true, Bool.not_false, Bool.false_eq_true, Bool.true_eq_false, if_true, if_false]; try grind

theorem mul64_spec (x y : Nat) (h : Heap) (hx : x < 18446744073709551616) (hy : y < 18446744073709551616) :
    SpecR Tryd.prog 46 [.int .u64 x, .int .u64 y] h fun r h' => r = .tuple ⟨[.int .u64 ((x * y / 18446744073709551616 : Nat) : Int), .int .u64 ((x * y % 18446744073709551616 : Nat) : Int)]⟩ ∧ Own h [] h' := by
  refine ⟨⟨_, Tryd.func46, rfl, by kernel_rfl⟩, fun w hw => ?_⟩
  subst hw
  refine (Tryd.bits_Mul64 x y hx hy w).mono ?_
  rintro e w' ⟨rfl, rfl⟩
  exact ⟨.refl _, rfl, Own.refl _⟩

set_option maxRecDepth 100000 in
theorem product_spec (a : Int × Int) (n d : Int) (h : Heap) (ha : okP a = true) (n0 : -1000000000 ≤ n ∧ n ≤ 1000000000) (d0 : -1000000000 ≤ d ∧ d ≤ 1000000000) (hd : d ≠ 0) :
    SpecR Tryd.prog 37 [ratV a, .int .i64 n, .int .i64 d] h fun r h' => r = ratE (packR (Rat.divInt (a.1 * n) (a.2 * d))) ∧ Own h [] h' := by
  obtain ⟨p, q⟩ := a
  obtain ⟨q0, q1, p0, p1⟩ := okP_rng ha
  simp only at p0 p1 q0 q1
  show SpecR Tryd.prog 37 [.agg ⟨[.int .i64 p, .int .i64 q]⟩, .int .i64 n, .int .i64 d] h fun r h' => r = ratE (packR (Rat.divInt (p * n) (q * d))) ∧ Own h [] h'
  refine Spec.enter Tryd.func37 rfl Tryd.ntmps37 (by kernel_rfl) ?_
  have o0 := Own.refl h
  (refine RunVC.boxO o0 rfl ?_; intro b10 m10 o10)
  (refine RunVC.alloc o10 ty24 ?_; intro b11 m11 o11)
  refine DrawVC.intro [0, 3, 6, 8, 10, 11, 12, 13] [1, 4] [5, 7, 9] [0, 1, 3, 4, 6, 8, 2, 5, 7, 9, 10, 11, 12, 13] mixed (by kernel_rfl) rfl (fun _ _ _ _ h => h) ?_
  refine StillVC.fieldAddr st24 rfl rfl rfl ?_
  refine StillVC.loadO o11 0 rfl ty3 rfl rfl ?_
  refine StillVC.fieldAddr st24 rfl rfl rfl ?_
  refine StillVC.loadO o11 0 rfl ty3 rfl rfl ?_
  refine CallVC.ret (magnitude_spec p _ (by omega) (by omega)) ?_
  rintro _ h1 ⟨rfl, oa⟩
  have o1 := o11.ext' oa
  refine And.intro oa.ext ?_
  refine CallVC.ret (magnitude_spec q _ (by omega) (by omega)) ?_
  rintro _ h2 ⟨rfl, ob⟩
  have o2 := o1.ext' ob
  refine CallVC.ret (magnitude_spec n _ (by omega) (by omega)) ?_
  rintro _ h3 ⟨rfl, oc⟩
  have o3 := o2.ext' oc
  refine CallVC.ret (magnitude_spec d _ (by omega) (by omega)) ?_
  rintro _ h4 ⟨rfl, od⟩
  have o4 := o3.ext' od
  have hw : p.natAbs ≤ 1000000000 := by omega
  have hx : q.natAbs ≤ 1000000000 := by omega
  have hy : n.natAbs ≤ 1000000000 := by omega
  have hz : d.natAbs ≤ 1000000000 := by omega
  have hq : 0 < q.natAbs := by omega
  have hd' : 0 < d.natAbs := by omega
  have key := divInt_of_natAbs p n q d p.natAbs n.natAbs d.natAbs
  have hp' : ((p.natAbs : Nat) : Int) = p ∨ ((p.natAbs : Nat) : Int) = -p := by omega
  generalize hW : p.natAbs = w at *
  generalize hX : q.natAbs = x at *
  generalize hY : n.natAbs = y at *
  generalize hZ : d.natAbs = z at *
  (refine RunVC.lit o4 sl58 ty28 rfl rfl (by decide) (And.intro rfl ?_); intro b50 m50 o50)
  refine CallVC.ret (common_spec [w, z] _ _ (o50.boxArr 2 rfl rfl (Nat.le_refl _)) (by simp) (by simp; omega)) ?_
  rintro _ h5 ⟨rfl, oe⟩
  have o5 := o50.ext' oe
  rw [gcd2]
  (refine RunVC.lit o5 sl58 ty28 rfl rfl (by decide) (And.intro rfl ?_); intro b60 m60 o60)
  refine CallVC.ret (common_spec [y, x] _ _ (o60.boxArr 3 rfl rfl (Nat.le_refl _)) (by simp) (by simp; omega)) ?_
  rintro _ h6 ⟨rfl, og⟩
  have o6 := o60.ext' og
  rw [gcd2]
  have g0 : 0 < Nat.gcd w z := Nat.gcd_pos_of_pos_right _ hd'
  have k0 : 0 < Nat.gcd y x := Nat.gcd_pos_of_pos_right _ hq
  obtain ⟨w', ew⟩ := Nat.gcd_dvd_left w z
  obtain ⟨z', ez⟩ := Nat.gcd_dvd_right w z
  obtain ⟨y', ey⟩ := Nat.gcd_dvd_left y x
  obtain ⟨x', ex⟩ := Nat.gcd_dvd_right y x
  generalize Nat.gcd w z = g at *
  generalize Nat.gcd y x = k at *
  have dw : ((w : Int) / (g : Int)) = (w' : Nat) := by rw [← Int.natCast_ediv, ew, Nat.mul_div_cancel_left _ g0]
  have dz : ((z : Int) / (g : Int)) = (z' : Nat) := by rw [← Int.natCast_ediv, ez, Nat.mul_div_cancel_left _ g0]
  have dy : ((y : Int) / (k : Int)) = (y' : Nat) := by rw [← Int.natCast_ediv, ey, Nat.mul_div_cancel_left _ k0]
  have dx : ((x : Int) / (k : Int)) = (x' : Nat) := by rw [← Int.natCast_ediv, ex, Nat.mul_div_cancel_left _ k0]
  have lw : w' ≤ w := by rw [ew]; exact Nat.le_mul_of_pos_left _ g0
  have lz : z' ≤ z := by rw [ez]; exact Nat.le_mul_of_pos_left _ g0
  have ly : y' ≤ y := by rw [ey]; exact Nat.le_mul_of_pos_left _ k0
  have lx : x' ≤ x := by rw [ex]; exact Nat.le_mul_of_pos_left _ k0
  have z0 : 0 < z' := Nat.pos_of_ne_zero fun e => by rw [e, Nat.mul_zero] at ez; omega
  have x0 : 0 < x' := Nat.pos_of_ne_zero fun e => by rw [e, Nat.mul_zero] at ex; omega
  have bn : w' * y' ≤ 1000000000 * 1000000000 := Nat.mul_le_mul (by omega) (by omega)
  have bd : x' * z' ≤ 1000000000 * 1000000000 := Nat.mul_le_mul (by omega) (by omega)
  have pd : 0 < x' * z' := Nat.mul_pos x0 z0
  have key2 := key (w' * y') (x' * z') g k rfl rfl rfl q0 hd (by rw [ew, ey]; grind) (by rw [ex, ez]; grind) (by have := Nat.mul_pos g0 k0; omega)
  refine DrawVC.intro [0, 1, 2, 3, 4, 5, 7, 8, 9, 10, 11] [] [6] [0, 1, 2, 3, 4, 5, 6, 7, 8, 9, 10, 11] mixed (by kernel_rfl) rfl (fun _ _ _ _ h => h) ?_
  refine StillVC.quoE rfl rfl (by omega) (by omega) (by simp [IntKind.max, IntKind.signed, IntKind.bits]; omega) ?_
  refine StillVC.quoE rfl rfl (by omega) (by omega) (by simp [IntKind.max, IntKind.signed, IntKind.bits]; omega) ?_
  rw [dw, dy]
  refine CallVC.ret (mul64_spec w' y' _ (by omega) (by omega)) ?_
  rintro _ h7 ⟨rfl, oh⟩
  have o7 := o6.ext' oh
  rw [show w' * y' / 18446744073709551616 = 0 by omega, show w' * y' % 18446744073709551616 = w' * y' by omega]
  refine DrawVC.intro [0, 1, 2, 3, 4, 5, 7, 8, 9, 10, 11] [] [6] [0, 1, 2, 3, 4, 5, 6, 7, 8, 9, 10, 11] mixed (by kernel_rfl) rfl (fun _ _ _ _ h => h) ?_
  refine StillVC.quoE rfl rfl (by omega) (by omega) (by simp [IntKind.max, IntKind.signed, IntKind.bits]; omega) ?_
  refine StillVC.quoE rfl rfl (by omega) (by omega) (by simp [IntKind.max, IntKind.signed, IntKind.bits]; omega) ?_
  rw [dx, dz]
  refine CallVC.ret (mul64_spec x' z' _ (by omega) (by omega)) ?_
  rintro _ h8 ⟨rfl, oi⟩
  have o8 := o7.ext' oi
  rw [show x' * z' / 18446744073709551616 = 0 by omega, show x' * z' % 18446744073709551616 = x' * z' by omega]
  refine Br.ff ?_
  refine Br.ff ?_
  refine StillVC.run (StillVC.fieldAddr st24 rfl rfl rfl ?_)
  refine StillVC.run (StillVC.loadO o8 0 rfl ty3 rfl rfl ?_)
  refine StillVC.run (StillVC.neB bool4 rfl rfl ?_)
  refine StillVC.run (StillVC.neB bool4 rfl rfl ?_)
  refine CallVC.ret (reduced_spec _ (w' * y') (x' * z') _ (by omega) (by omega) pd) ?_
  rintro _ h9 ⟨rfl, oj⟩
  have o9 := o8.ext' oj
  rw [reducedR_pack _ _ _ pd, key2]
  generalize packR (Rat.divInt (p * n) (q * d)) = R
  obtain ⟨⟨r1, r2⟩, e⟩ := R
  (refine RunVC.storeL o9 1 rfl ty24 rfl (by decide) (And.intro ⟨rfl, rfl⟩ ?_); intro m100 o100)
  refine RetVC.cell2 rfl o100 1 rfl ty24 rfl rfl ?_
  exact ⟨rfl, o100.sel [] rfl⟩

set_option maxRecDepth 100000 in
theorem on_spec (a b : Int × Int) (g : Nat) (cap : List Value) (r : (Int × Int) × Int) (h : Heap) (ha : i64P a) (hb : i64P b)
    (hop : okP a = true → okP b = true → ∀ h', Ext h h' → SpecR Tryd.prog g cap h' fun v h'' => v = ratE r ∧ Own h' [] h'') :
    SpecR Tryd.prog 34 [ratV a, ratV b, .func (.func g) ⟨[]⟩ ⟨cap⟩] h fun v h' => v = ratE (onR a b r) ∧ Own h [] h' := by
  obtain ⟨a1, a2⟩ := a
  obtain ⟨b1, b2⟩ := b
  unfold onR
  show SpecR Tryd.prog 34 [.agg ⟨[.int .i64 a1, .int .i64 a2]⟩, .agg ⟨[.int .i64 b1, .int .i64 b2]⟩, .func (.func g) ⟨[]⟩ ⟨cap⟩] h fun v h' => v = ratE (if okP (a1, a2) = true ∧ okP (b1, b2) = true then r else ((0, 0), 1)) ∧ Own h [] h'
  refine Spec.enter Tryd.func34 rfl Tryd.ntmps34 (by kernel_rfl) ?_
  have o0 := Own.refl h
  (refine RunVC.boxO o0 rfl ?_; intro b10 m10 o10)
  (refine RunVC.boxO o10 rfl ?_; intro b11 m11 o11)
  (refine RunVC.alloc o11 ty24 ?_; intro b12 m12 o12)
  refine StillVC.run (StillVC.loadON o12 0 rfl ty24 rfl rfl rfl ?_)
  refine CallVC.ret (valid_spec (a1, a2) _ ha) ?_
  rintro _ h1 ⟨rfl, oa⟩
  have o1 := o12.ext' oa
  cases ka : okP (a1, a2) with
  | false =>
    rw [if_neg (fun hc => Bool.noConfusion hc.1)]
    refine Br.tt ?_
    refine Br.tt ?_
    refine StillVC.run (StillVC.buildK st24 ?_)
    (refine RunVC.storeL o1 2 rfl ty24 rfl (by decide) (And.intro ⟨rfl, rfl⟩ ?_); intro m21 o21)
    refine RetVC.cell2 rfl o21 2 rfl ty24 rfl rfl ?_
    exact ⟨rfl, Own.sel (by assumption) [] rfl⟩
  | true =>
    refine Br.ff ?_
    refine StillVC.run (StillVC.loadON o1 1 rfl ty24 rfl rfl rfl ?_)
    refine CallVC.ret (valid_spec (b1, b2) _ hb) ?_
    rintro _ h2 ⟨rfl, ob⟩
    have o2 := o1.ext' ob
    cases kb : okP (b1, b2) with
    | false =>
      rw [if_neg (fun hc => Bool.noConfusion hc.2)]
      refine Br.tt ?_
      refine StillVC.run (StillVC.buildK st24 ?_)
      (refine RunVC.storeL o2 2 rfl ty24 rfl (by decide) (And.intro ⟨rfl, rfl⟩ ?_); intro m41 o41)
      refine RetVC.cell2 rfl o41 2 rfl ty24 rfl rfl ?_
      exact ⟨rfl, Own.sel (by assumption) [] rfl⟩
    | true =>
      rw [if_pos ⟨rfl, rfl⟩]
      refine Br.ff ?_
      refine RegVC.plain ?_
      refine CallVC.ret (hop ka kb _ o2.ext) ?_
      rintro _ h3 ⟨rfl, oc⟩
      have o3 := o2.ext' oc
      obtain ⟨⟨r1, r2⟩, e⟩ := r
      (refine RunVC.storeL o3 2 rfl ty24 rfl (by decide) (And.intro ⟨rfl, rfl⟩ ?_); intro m60 o60)
      refine RetVC.cell2 rfl o60 2 rfl ty24 rfl rfl ?_
      exact ⟨rfl, Own.sel (by assumption) [] rfl⟩

theorem cells2 {h : Heap} {p : Nat} {u v : Value} (h0 : cellAt h ⟨p, 0, none⟩ = some u) (h1 : cellAt h ⟨p, 1, none⟩ = some v) : ∀ j, j < [u, v].length → cellAt h (Addr.add ⟨p, 0, none⟩ j) = [u, v][j]? := by
  intro j hj
  match j, hj with
  | 0, _ => exact h0
  | 1, _ => exact h1

set_option maxRecDepth 100000 in
theorem add1_spec (a b : Int × Int) (p q : Nat) (h : Heap) (ka : okP a = true) (kb : okP b = true) (p0 : cellAt h ⟨p, 0, none⟩ = some (.int .i64 a.1)) (p1 : cellAt h ⟨p, 1, none⟩ = some (.int .i64 a.2))
    (q0 : cellAt h ⟨q, 0, none⟩ = some (.int .i64 b.1)) (q1 : cellAt h ⟨q, 1, none⟩ = some (.int .i64 b.2)) :
    SpecR Tryd.prog 35 [.pointer (some ⟨p, 0, none⟩), .pointer (some ⟨q, 0, none⟩)] h fun v h' => v = ratE (packR (ofP a + ofP b)) ∧ Own h [] h' := by
  have e := ofP_add ka kb
  have hne : a.2 * b.2 ≠ 0 := Int.mul_ne_zero (ofP_ne ka) (ofP_ne kb)
  obtain ⟨r1, r2, r3, r4⟩ := okP_rng ka
  obtain ⟨s1, s2, s3, s4⟩ := okP_rng kb
  have m1 := mul_abs_le (A := 1000000000) (B := 1000000000) ⟨r3, r4⟩ ⟨Int.le_of_lt s1, s2⟩
  have m2 := mul_abs_le (A := 1000000000) (B := 1000000000) ⟨s3, s4⟩ ⟨Int.le_of_lt r1, r2⟩
  have m3 := mul_abs_le (x := a.2) (A := 1000000000) (B := 1000000000) ⟨by omega, r2⟩ ⟨Int.le_of_lt s1, s2⟩
  rw [← e, ← ratioR_pack hne]
  obtain ⟨a1, a2⟩ := a
  obtain ⟨b1, b2⟩ := b
  simp only at *
  refine Spec.enter Tryd.func35 rfl Tryd.ntmps35 (by kernel_rfl) ?_
  have o0 := Own.refl h
  (refine RunVC.alloc o0 ty24 ?_; intro b10 m10 o10)
  refine StillVC.run (StillVC.fieldAddr st24 rfl rfl rfl ?_)
  refine StillVC.run (StillVC.load1 ty3 rfl (o10.old p0) ?_)
  refine StillVC.run (StillVC.fieldAddr st24 rfl rfl rfl ?_)
  refine StillVC.run (StillVC.load1 ty3 rfl (o10.old q1) ?_)
  refine Ar.i64 (by omega) (by omega) ?_
  refine StillVC.run (StillVC.fieldAddr st24 rfl rfl rfl ?_)
  refine StillVC.run (StillVC.load1 ty3 rfl (o10.old q0) ?_)
  refine StillVC.run (StillVC.fieldAddr st24 rfl rfl rfl ?_)
  refine StillVC.run (StillVC.load1 ty3 rfl (o10.old p1) ?_)
  refine Ar.i64 (by omega) (by omega) ?_
  refine Ar.i64 (by omega) (by omega) ?_
  refine StillVC.run (StillVC.fieldAddr st24 rfl rfl rfl ?_)
  refine StillVC.run (StillVC.load1 ty3 rfl (o10.old p1) ?_)
  refine StillVC.run (StillVC.fieldAddr st24 rfl rfl rfl ?_)
  refine StillVC.run (StillVC.load1 ty3 rfl (o10.old q1) ?_)
  refine Ar.i64 (by omega) (by omega) ?_
  refine CallVC.ret (ratioMake_spec _ _ _ (by omega) (by omega) (by omega) (by omega)) ?_
  rintro _ h1 ⟨rfl, oa⟩
  have o1 := o10.ext' oa
  generalize ratioR (a1 * b2 + b1 * a2) (a2 * b2) = R
  obtain ⟨⟨x, y⟩, z⟩ := R
  (refine RunVC.storeL o1 0 rfl ty24 rfl (by decide) (And.intro ⟨rfl, rfl⟩ ?_); intro m30 o30)
  refine RetVC.cell2 rfl o30 0 rfl ty24 rfl rfl ?_
  exact ⟨rfl, Own.sel (by assumption) [] rfl⟩

set_option maxRecDepth 100000 in
theorem mul1_spec (a b : Int × Int) (p q : Nat) (h : Heap) (ka : okP a = true) (kb : okP b = true) (p0 : cellAt h ⟨p, 0, none⟩ = some (.int .i64 a.1)) (p1 : cellAt h ⟨p, 1, none⟩ = some (.int .i64 a.2))
    (q0 : cellAt h ⟨q, 0, none⟩ = some (.int .i64 b.1)) (q1 : cellAt h ⟨q, 1, none⟩ = some (.int .i64 b.2)) :
    SpecR Tryd.prog 36 [.pointer (some ⟨p, 0, none⟩), .pointer (some ⟨q, 0, none⟩)] h fun v h' => v = ratE (packR (ofP a * ofP b)) ∧ Own h [] h' := by
  obtain ⟨r1, r2, r3, r4⟩ := okP_rng ka
  obtain ⟨s1, s2, s3, s4⟩ := okP_rng kb
  have key := fun h => product_spec a b.1 b.2 h ka ⟨s3, s4⟩ ⟨by omega, s2⟩ (by omega)
  rw [ofP_mul] at key
  obtain ⟨a1, a2⟩ := a
  obtain ⟨b1, b2⟩ := b
  simp only at *
  refine Spec.enter Tryd.func36 rfl Tryd.ntmps36 (by kernel_rfl) ?_
  have o0 := Own.refl h
  (refine RunVC.alloc o0 ty24 ?_; intro b10 m10 o10)
  refine StillVC.run (StillVC.loadN (vs := [.int .i64 a1, .int .i64 a2]) ty24 rfl rfl (cells2 (o10.old p0) (o10.old p1)) ?_)
  refine StillVC.run (StillVC.fieldAddr st24 rfl rfl rfl ?_)
  refine StillVC.run (StillVC.load1 ty3 rfl (o10.old q0) ?_)
  refine StillVC.run (StillVC.fieldAddr st24 rfl rfl rfl ?_)
  refine StillVC.run (StillVC.load1 ty3 rfl (o10.old q1) ?_)
  refine CallVC.ret (key _) ?_
  rintro _ h1 ⟨rfl, oa⟩
  have o1 := o10.ext' oa
  generalize packR (ofP (a1, a2) * ofP (b1, b2)) = R
  obtain ⟨⟨x, y⟩, z⟩ := R
  (refine RunVC.storeL o1 0 rfl ty24 rfl (by decide) (And.intro ⟨rfl, rfl⟩ ?_); intro m30 o30)
  refine RetVC.cell2 rfl o30 0 rfl ty24 rfl rfl ?_
  exact ⟨rfl, Own.sel (by assumption) [] rfl⟩

set_option maxRecDepth 100000 in
theorem div1_spec (a b : Int × Int) (p q : Nat) (h : Heap) (ka : okP a = true) (kb : okP b = true) (p0 : cellAt h ⟨p, 0, none⟩ = some (.int .i64 a.1)) (p1 : cellAt h ⟨p, 1, none⟩ = some (.int .i64 a.2))
    (q0 : cellAt h ⟨q, 0, none⟩ = some (.int .i64 b.1)) (q1 : cellAt h ⟨q, 1, none⟩ = some (.int .i64 b.2)) :
    SpecR Tryd.prog 41 [.pointer (some ⟨p, 0, none⟩), .pointer (some ⟨q, 0, none⟩)] h fun v h' => v = ratE (if a.1 = 0 then ((0, 0), 1) else packR (ofP b / ofP a)) ∧ Own h [] h' := by
  obtain ⟨r1, r2, r3, r4⟩ := okP_rng ka
  obtain ⟨s1, s2, s3, s4⟩ := okP_rng kb
  have key := fun h hne => product_spec b a.2 a.1 h kb ⟨by omega, r2⟩ ⟨r3, r4⟩ hne
  rw [ofP_div] at key
  obtain ⟨a1, a2⟩ := a
  obtain ⟨b1, b2⟩ := b
  simp only at *
  refine Spec.enter Tryd.func41 rfl Tryd.ntmps41 (by kernel_rfl) ?_
  have o0 := Own.refl h
  by_cases hz : a1 = 0
  · rw [if_pos hz]
    (refine RunVC.alloc o0 ty24 ?_; intro b10 m10 o10)
    refine StillVC.run (StillVC.fieldAddr st24 rfl rfl rfl ?_)
    refine StillVC.run (StillVC.load1 ty3 rfl (o10.old p0) ?_)
    refine Br.dec (fun c13 => ?_) (fun hc => absurd (by omega) hc)
    refine StillVC.run (StillVC.buildK st24 ?_)
    (refine RunVC.storeL o10 0 rfl ty24 rfl (by decide) (And.intro ⟨rfl, rfl⟩ ?_); intro m15 o15)
    refine RetVC.cell2 rfl o15 0 rfl ty24 rfl rfl ?_
    exact ⟨rfl, Own.sel (by assumption) [] rfl⟩
  · rw [if_neg hz]
    (refine RunVC.alloc o0 ty24 ?_; intro b20 m20 o20)
    refine StillVC.run (StillVC.fieldAddr st24 rfl rfl rfl ?_)
    refine StillVC.run (StillVC.load1 ty3 rfl (o20.old p0) ?_)
    refine Br.dec (fun hc => absurd hc (by omega)) (fun c23 => ?_)
    refine StillVC.run (StillVC.loadN (vs := [.int .i64 b1, .int .i64 b2]) ty24 rfl rfl (cells2 (o20.old q0) (o20.old q1)) ?_)
    refine StillVC.run (StillVC.fieldAddr st24 rfl rfl rfl ?_)
    refine StillVC.run (StillVC.load1 ty3 rfl (o20.old p1) ?_)
    refine StillVC.run (StillVC.fieldAddr st24 rfl rfl rfl ?_)
    refine StillVC.run (StillVC.load1 ty3 rfl (o20.old p0) ?_)
    refine CallVC.ret (key _ hz) ?_
    rintro _ h1 ⟨rfl, oa⟩
    have o1 := o20.ext' oa
    generalize packR (ofP (b1, b2) / ofP (a1, a2)) = R
    obtain ⟨⟨x, y⟩, z⟩ := R
    (refine RunVC.storeL o1 0 rfl ty24 rfl (by decide) (And.intro ⟨rfl, rfl⟩ ?_); intro m40 o40)
    refine RetVC.cell2 rfl o40 0 rfl ty24 rfl rfl ?_
    exact ⟨rfl, Own.sel (by assumption) [] rfl⟩

set_option maxRecDepth 100000 in
theorem add_spec (a b : Int × Int) (h : Heap) (ha : i64P a) (hb : i64P b) :
    SpecR Tryd.prog 15 [ratV a, ratV b] h fun v h' => v = ratE (addR a b) ∧ Own h [] h' := by
  obtain ⟨a1, a2⟩ := a
  obtain ⟨b1, b2⟩ := b
  unfold addR
  show SpecR Tryd.prog 15 [.agg ⟨[.int .i64 a1, .int .i64 a2]⟩, .agg ⟨[.int .i64 b1, .int .i64 b2]⟩] h _
  refine Spec.enter Tryd.func15 rfl Tryd.ntmps15 (by kernel_rfl) ?_
  have o0 := Own.refl h
  (refine RunVC.boxO o0 rfl ?_; intro b10 m10 o10)
  (refine RunVC.boxO o10 rfl ?_; intro b11 m11 o11)
  (refine RunVC.alloc o11 ty24 ?_; intro b12 m12 o12)
  refine StillVC.run (StillVC.loadON o12 0 rfl ty24 rfl rfl rfl ?_)
  refine StillVC.run (StillVC.loadON o12 1 rfl ty24 rfl rfl rfl ?_)
  refine StillVC.run (StillVC.makeFn ?_)
  refine CallVC.ret (on_spec (a1, a2) (b1, b2) _ _ _ _ ha hb (fun ka kb h' e => add1_spec (a1, a2) (b1, b2) _ _ h' ka kb (e.cell (o12.cellB 0 rfl 0)) (e.cell (o12.cellB 0 rfl 1)) (e.cell (o12.cellB 1 rfl 0)) (e.cell (o12.cellB 1 rfl 1)))) ?_
  rintro _ h1 ⟨rfl, oa⟩
  have o1 := o12.ext' oa
  generalize onR (a1, a2) (b1, b2) _ = R
  obtain ⟨⟨x, y⟩, z⟩ := R
  (refine RunVC.storeL o1 2 rfl ty24 rfl (by decide) (And.intro ⟨rfl, rfl⟩ ?_); intro m30 o30)
  refine RetVC.cell2 rfl o30 2 rfl ty24 rfl rfl ?_
  exact ⟨rfl, Own.sel (by assumption) [] rfl⟩

set_option maxRecDepth 100000 in
theorem mul_spec (a b : Int × Int) (h : Heap) (ha : i64P a) (hb : i64P b) :
    SpecR Tryd.prog 16 [ratV a, ratV b] h fun v h' => v = ratE (mulR a b) ∧ Own h [] h' := by
  obtain ⟨a1, a2⟩ := a
  obtain ⟨b1, b2⟩ := b
  unfold mulR
  show SpecR Tryd.prog 16 [.agg ⟨[.int .i64 a1, .int .i64 a2]⟩, .agg ⟨[.int .i64 b1, .int .i64 b2]⟩] h _
  refine Spec.enter Tryd.func16 rfl Tryd.ntmps16 (by kernel_rfl) ?_
  have o0 := Own.refl h
  (refine RunVC.boxO o0 rfl ?_; intro b10 m10 o10)
  (refine RunVC.boxO o10 rfl ?_; intro b11 m11 o11)
  (refine RunVC.alloc o11 ty24 ?_; intro b12 m12 o12)
  refine StillVC.run (StillVC.loadON o12 0 rfl ty24 rfl rfl rfl ?_)
  refine StillVC.run (StillVC.loadON o12 1 rfl ty24 rfl rfl rfl ?_)
  refine StillVC.run (StillVC.makeFn ?_)
  refine CallVC.ret (on_spec (a1, a2) (b1, b2) _ _ _ _ ha hb (fun ka kb h' e => mul1_spec (a1, a2) (b1, b2) _ _ h' ka kb (e.cell (o12.cellB 0 rfl 0)) (e.cell (o12.cellB 0 rfl 1)) (e.cell (o12.cellB 1 rfl 0)) (e.cell (o12.cellB 1 rfl 1)))) ?_
  rintro _ h1 ⟨rfl, oa⟩
  have o1 := o12.ext' oa
  generalize onR (a1, a2) (b1, b2) _ = R
  obtain ⟨⟨x, y⟩, z⟩ := R
  (refine RunVC.storeL o1 2 rfl ty24 rfl (by decide) (And.intro ⟨rfl, rfl⟩ ?_); intro m30 o30)
  refine RetVC.cell2 rfl o30 2 rfl ty24 rfl rfl ?_
  exact ⟨rfl, Own.sel (by assumption) [] rfl⟩

set_option maxRecDepth 100000 in
theorem div_spec (a b : Int × Int) (h : Heap) (ha : i64P a) (hb : i64P b) :
    SpecR Tryd.prog 20 [ratV a, ratV b] h fun v h' => v = ratE (divR a b) ∧ Own h [] h' := by
  obtain ⟨a1, a2⟩ := a
  obtain ⟨b1, b2⟩ := b
  unfold divR
  show SpecR Tryd.prog 20 [.agg ⟨[.int .i64 a1, .int .i64 a2]⟩, .agg ⟨[.int .i64 b1, .int .i64 b2]⟩] h _
  refine Spec.enter Tryd.func20 rfl Tryd.ntmps20 (by kernel_rfl) ?_
  have o0 := Own.refl h
  (refine RunVC.boxO o0 rfl ?_; intro b10 m10 o10)
  (refine RunVC.boxO o10 rfl ?_; intro b11 m11 o11)
  (refine RunVC.alloc o11 ty24 ?_; intro b12 m12 o12)
  refine StillVC.run (StillVC.loadON o12 0 rfl ty24 rfl rfl rfl ?_)
  refine StillVC.run (StillVC.loadON o12 1 rfl ty24 rfl rfl rfl ?_)
  refine StillVC.run (StillVC.makeFn ?_)
  refine CallVC.ret (on_spec (a1, a2) (b1, b2) _ _ _ _ ha hb (fun ka kb h' e => div1_spec (b1, b2) (a1, a2) _ _ h' kb ka (e.cell (o12.cellB 1 rfl 0)) (e.cell (o12.cellB 1 rfl 1)) (e.cell (o12.cellB 0 rfl 0)) (e.cell (o12.cellB 0 rfl 1)))) ?_
  rintro _ h1 ⟨rfl, oa⟩
  have o1 := o12.ext' oa
  generalize onR (a1, a2) (b1, b2) _ = R
  obtain ⟨⟨x, y⟩, z⟩ := R
  (refine RunVC.storeL o1 2 rfl ty24 rfl (by decide) (And.intro ⟨rfl, rfl⟩ ?_); intro m30 o30)
  refine RetVC.cell2 rfl o30 2 rfl ty24 rfl rfl ?_
  exact ⟨rfl, Own.sel (by assumption) [] rfl⟩

end Go.Proofs.YtemijanhigjmmaaDoor
