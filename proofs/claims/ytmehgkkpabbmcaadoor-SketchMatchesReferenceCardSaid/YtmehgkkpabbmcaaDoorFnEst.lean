/-
  Estimates of chapter 5.
-/
import Derived.Test.YtmehgkkpabbmcaaDoorStructs
import Derived.Test.YtmehgkkpabbmcaaDoorFnValid
import Derived.Test.YtmehgkkpabbmcaaDoorFnRatio
namespace Go.Proofs.YtmehgkkpabbmcaaDoor
open Go

/-- How many places of two lists hold the same. -/
def sameL (a b : List Int) : Nat := (a.zip b).countP fun x => x.1 == x.2

theorem sameL_step {a b : List Int} {i : Nat} {x y : Int} (hx : a[i]? = some x) (hy : b[i]? = some y) : sameL (a.take (i + 1)) (b.take (i + 1)) = sameL (a.take i) (b.take i) + if x = y then 1 else 0 := by
  obtain ⟨hi, _⟩ := List.getElem?_eq_some_iff.1 hx
  obtain ⟨hj, _⟩ := List.getElem?_eq_some_iff.1 hy
  unfold sameL
  rw [List.take_add_one, List.take_add_one, hx, hy]
  simp only [Option.toList_some]
  rw [List.zip_append (by simp; omega)]
  simp [List.countP_append]

theorem sameL_le (a b : List Int) : sameL a b ≤ a.length := by
  unfold sameL
  refine Nat.le_trans List.countP_le_length ?_
  simp
  omega

def estR (a b : List Int) : (Int × Int) × Int :=
  if okB a && okB b && decide (a.length = b.length) then (((sameL a b / Nat.gcd (sameL a b) a.length : Nat), (a.length / Nat.gcd (sameL a b) a.length : Nat)), 0) else ((0, 0), 1)

theorem estR_ratio {a b : List Int} (ka : okB a = true) (kb : okB b = true) (hab : a.length = b.length) : ratioR (sameL a b) a.length = estR a b := by
  have hl := okB_spec ka
  have hs := sameL_le a b
  have h0 : ¬ (a.length : Int) = 0 := by omega
  have e1 : decide ((sameL a b : Int) < 0) = false := decide_eq_false (by omega)
  have e2 : decide ((a.length : Int) < 0) = false := decide_eq_false (by omega)
  have hg1 : sameL a b / Nat.gcd (sameL a b) a.length ≤ sameL a b := Nat.div_le_self _ _
  have hg2 : a.length / Nat.gcd (sameL a b) a.length ≤ a.length := Nat.div_le_self _ _
  unfold ratioR estR reducedR
  rw [if_neg h0, e1, e2, Int.natAbs_natCast, Int.natAbs_natCast, if_neg (by omega), ka, kb, decide_eq_true hab]
  rfl

set_option maxRecDepth 100000 in
theorem estimate_spec (a b : List Int) (va vb : Value) (h : Heap) (a0 : Arr h va (ints a)) (b0 : Arr h vb (ints b)) (ha : a.length ≤ 1000000000) (hb : b.length ≤ 1000000000) :
    SpecR Tryd.prog 16 [va, vb] h fun r h' => r = .tuple ⟨[ratV (estR a b).1, .int .i64 (estR a b).2]⟩ ∧ Own h [] h' := by
  refine Spec.enter Tryd.func16 rfl Tryd.ntmps16 (by kernel_rfl) ?_
  have o0 := Own.refl h
  have la : (ints a).length = a.length := by simp
  have lb : (ints b).length = b.length := by simp
  (refine RunVC.alloc o0 ty31 ?_; intro b10 m10 o10)
  refine CallVC.ret (right_spec a va _ (a0.ext o10.ext) ha) ?_
  rintro _ h1 ⟨rfl, oa⟩
  have o1 := o10.ext' oa
  cases ka : okB a with
  | false =>
    have hR : estR a b = ((0, 0), 1) := by simp [estR, ka]
    rw [hR]
    refine Br.tt ?_
    refine Br.tt ?_
    refine StillVC.run (StillVC.build st31 rfl ?_)
    (refine RunVC.store o1 0 rfl ty31 rfl (by simp) (And.intro ⟨rfl, rfl⟩ ?_); intro m21 o21)
    refine RetVC.cell2 rfl o21 0 rfl ty31 rfl rfl ?_
    refine ⟨rfl, ?_⟩
    exact Own.sel (by assumption) [] rfl
  | true =>
    refine Br.ff ?_
    refine CallVC.ret (right_spec b vb _ (b0.ext o1.ext) hb) ?_
    rintro _ h2 ⟨rfl, ob⟩
    have o2 := o1.ext' ob
    clear oa ob o0 o1 o10
    cases kb : okB b with
    | false =>
      have hR : estR a b = ((0, 0), 1) := by simp [estR, kb]
      rw [hR]
      refine Br.tt ?_
      refine Br.tt ?_
      refine StillVC.run (StillVC.build st31 rfl ?_)
      (refine RunVC.store o2 0 rfl ty31 rfl (by simp) (And.intro ⟨rfl, rfl⟩ ?_); intro m31 o31)
      refine RetVC.cell2 rfl o31 0 rfl ty31 rfl rfl ?_
      refine ⟨rfl, ?_⟩
      exact Own.sel (by assumption) [] rfl
    | true =>
      by_cases hab : a.length = b.length
      · have hl := okB_spec ka
        refine Br.ff ?_
        refine StillVC.run (StillVC.lenAn (a0.ext o2.ext) (by assumption) sl23 ?_)
        refine StillVC.run (StillVC.lenAn (b0.ext o2.ext) (by assumption) sl23 ?_)
        refine Br.ndec (fun hc => absurd (by first | omega | assumption | decide) hc) (fun c42 => ?_)
        refine StillVC.run (StillVC.lenAn (a0.ext o2.ext) (by assumption) sl23 ?_)
        refine LoopVC.intro [6, 7, 8, 27, 28, 29, 30, 31, 32, 33, 34, 35, 36, 37, 38, 39, 40] [6, 27] (fun vs hh => ∃ (i : Nat), i ≤ a.length ∧ vs = [.int .i64 (sameL (a.take i) (b.take i)), .int .i64 i] ∧ Own h [box b10 [Value.int .i64 0, Value.int .i64 0] 31] hh) (fun vs _ => match vs with | [_, .int _ i] => a.length - i.toNat | _ => 0) ?_ ?_
        · exact ⟨0, by omega, rfl, o2⟩
        · clear o2
          rintro vs junk h3 ⟨i, hi, rfl, o3⟩
          have hs := sameL_le (a.take i) (b.take i)
          have hs2 : (a.take i).length ≤ i := by simp; omega
          by_cases hlt : i < a.length
          · obtain ⟨x, hx⟩ := getx hlt
            obtain ⟨y, hy⟩ := getx (show i < b.length by omega)
            have hst := sameL_step hx hy
            generalize sameL (a.take i) (b.take i) = k at *
            refine Br.dec (fun c50 => ?_) (fun hc => absurd (by omega) hc)
            refine StillVC.run (StillVC.idx sl23 ty3 (a0.ext o3.ext) rfl (by omega) (by omega) ?_)
            refine StillVC.run (StillVC.loadM (a0.ext o3.ext) ty3 rfl (by first | assumption | rfl) ?_)
            refine StillVC.run (StillVC.idx sl23 ty3 (b0.ext o3.ext) rfl (by omega) (by omega) ?_)
            refine StillVC.run (StillVC.loadM (b0.ext o3.ext) ty3 rfl (by first | assumption | rfl) ?_)
            refine Br.dec (fun c55 => ?_) (fun c55 => ?_)
            refine Ar.i64 (by omega) (by omega) ?_
            refine Ar.i64 (by omega) (by omega) ?_
            refine ⟨rfl, ?_⟩
            rotate_left
            refine Ar.i64 (by omega) (by omega) ?_
            refine ⟨rfl, ?_⟩
            · rw [if_neg (by assumption)] at hst
              exact ⟨⟨i + 1, by omega, by rw [hst]; rfl, o3⟩, by simp; omega⟩
            · rw [if_pos (by assumption)] at hst
              exact ⟨⟨i + 1, by omega, by rw [hst]; rfl, o3⟩, by simp; omega⟩
          · obtain rfl : i = a.length := by omega
            rw [List.take_length, hab, List.take_length, ← hab]
            have hs := sameL_le a b
            refine Br.dec (fun hc => absurd hc (by omega)) (fun c60 => ?_)
            refine StillVC.run (StillVC.lenAn (a0.ext o3.ext) (by assumption) sl23 ?_)
            refine CallVC.ret (ratioMake_spec (sameL a b) a.length _ (by omega) (by omega) (by omega) (by omega)) ?_
            rintro _ h4 ⟨rfl, oc⟩
            have o4 := o3.ext' oc
            rw [estR_ratio ka kb hab]
            generalize estR a b = R
            obtain ⟨⟨x, y⟩, e⟩ := R
            (refine RunVC.store o4 0 rfl ty31 rfl (by simp) (And.intro ⟨rfl, rfl⟩ ?_); intro m70 o70)
            refine RetVC.cell2 rfl o70 0 rfl ty31 rfl rfl ?_
            refine ⟨rfl, ?_⟩
            exact Own.sel (by assumption) [] rfl
      · have hR : estR a b = ((0, 0), 1) := by simp [estR, hab]
        rw [hR]
        refine Br.ff ?_
        refine StillVC.run (StillVC.lenAn (a0.ext o2.ext) (by assumption) sl23 ?_)
        refine StillVC.run (StillVC.lenAn (b0.ext o2.ext) (by assumption) sl23 ?_)
        refine Br.ndec (fun c62 => ?_) (fun hc => absurd hc (by first | omega | assumption | decide))
        refine StillVC.run (StillVC.build st31 rfl ?_)
        (refine RunVC.store o2 0 rfl ty31 rfl (by simp) (And.intro ⟨rfl, rfl⟩ ?_); intro m64 o64)
        refine RetVC.cell2 rfl o64 0 rfl ty31 rfl rfl ?_
        refine ⟨rfl, ?_⟩
        exact Own.sel (by assumption) [] rfl

set_option maxRecDepth 100000 in
theorem refEstimate_spec (a b : List Int) (va vb : Value) (h : Heap) (a0 : Arr h va (ints a)) (b0 : Arr h vb (ints b)) (ha : a.length ≤ 1000000000) (hb : b.length ≤ 1000000000) :
    SpecR Tryd.prog 17 [va, vb] h fun r h' => r = .tuple ⟨[ratV (estR a b).1, .int .i64 (estR a b).2]⟩ ∧ Own h [] h' := by
  refine Spec.enter Tryd.func17 rfl Tryd.ntmps17 (by kernel_rfl) ?_
  have o0 := Own.refl h
  have la : (ints a).length = a.length := by simp
  have lb : (ints b).length = b.length := by simp
  (refine RunVC.alloc o0 ty31 ?_; intro b10 m10 o10)
  refine CallVC.ret (refValid_spec a va _ (a0.ext o10.ext) ha) ?_
  rintro _ h1 ⟨rfl, oa⟩
  have o1 := o10.ext' oa
  cases ka : okB a with
  | false =>
    have hR : estR a b = ((0, 0), 1) := by simp [estR, ka]
    rw [hR]
    refine Br.tt ?_
    refine Br.tt ?_
    refine StillVC.run (StillVC.build st31 rfl ?_)
    (refine RunVC.store o1 0 rfl ty31 rfl (by simp) (And.intro ⟨rfl, rfl⟩ ?_); intro m21 o21)
    refine RetVC.cell2 rfl o21 0 rfl ty31 rfl rfl ?_
    refine ⟨rfl, ?_⟩
    exact Own.sel (by assumption) [] rfl
  | true =>
    refine Br.ff ?_
    refine CallVC.ret (refValid_spec b vb _ (b0.ext o1.ext) hb) ?_
    rintro _ h2 ⟨rfl, ob⟩
    have o2 := o1.ext' ob
    clear oa ob o0 o1 o10
    cases kb : okB b with
    | false =>
      have hR : estR a b = ((0, 0), 1) := by simp [estR, kb]
      rw [hR]
      refine Br.tt ?_
      refine Br.tt ?_
      refine StillVC.run (StillVC.build st31 rfl ?_)
      (refine RunVC.store o2 0 rfl ty31 rfl (by simp) (And.intro ⟨rfl, rfl⟩ ?_); intro m31 o31)
      refine RetVC.cell2 rfl o31 0 rfl ty31 rfl rfl ?_
      refine ⟨rfl, ?_⟩
      exact Own.sel (by assumption) [] rfl
    | true =>
      by_cases hab : a.length = b.length
      · have hl := okB_spec ka
        refine Br.ff ?_
        refine StillVC.run (StillVC.lenAn (a0.ext o2.ext) (by assumption) sl23 ?_)
        refine StillVC.run (StillVC.lenAn (b0.ext o2.ext) (by assumption) sl23 ?_)
        refine Br.ndec (fun hc => absurd (by first | omega | assumption | decide) hc) (fun c42 => ?_)
        refine LoopVC.intro [6, 7, 25, 26, 27, 28, 29, 30, 31, 32, 33, 34, 35, 36, 37, 38, 39, 40, 41] [6, 7] (fun vs hh => ∃ (i : Nat), i ≤ a.length ∧ vs = [.int .i64 (sameL (a.take i) (b.take i)), .int .i64 i] ∧ Own h [box b10 [Value.int .i64 0, Value.int .i64 0] 31] hh) (fun vs _ => match vs with | [_, .int _ i] => a.length - i.toNat | _ => 0) ?_ ?_
        · exact ⟨0, by omega, rfl, o2⟩
        · clear o2
          rintro vs junk h3 ⟨i, hi, rfl, o3⟩
          have hs := sameL_le (a.take i) (b.take i)
          have hs2 : (a.take i).length ≤ i := by simp; omega
          by_cases hlt : i < a.length
          · obtain ⟨x, hx⟩ := getx hlt
            obtain ⟨y, hy⟩ := getx (show i < b.length by omega)
            have hst := sameL_step hx hy
            generalize sameL (a.take i) (b.take i) = k at *
            refine StillVC.run (StillVC.lenAn (a0.ext o3.ext) (by assumption) sl23 ?_)
            refine Br.dec (fun c51 => ?_) (fun hc => absurd (by omega) hc)
            refine DrawVC.intro [0, 1, 2, 4, 5, 6, 8] [3, 7] [] [0, 1, 2, 3, 4, 5, 6, 7, 8] mixed (by kernel_rfl) rfl (fun _ _ _ _ h => h) ?_
            refine StillVC.idx sl23 ty3 (a0.ext o3.ext) rfl (by omega) (by omega) ?_
            refine StillVC.loadM (a0.ext o3.ext) ty3 rfl (by first | assumption | rfl) ?_
            refine StillVC.idx sl23 ty3 (b0.ext o3.ext) rfl (by omega) (by omega) ?_
            refine StillVC.loadM (b0.ext o3.ext) ty3 rfl (by first | assumption | rfl) ?_
            refine Br.dec (fun c56 => ?_) (fun c56 => ?_)
            refine Ar.i64 (by omega) (by omega) ?_
            refine Ar.i64 (by omega) (by omega) ?_
            refine ⟨rfl, ?_⟩
            rotate_left
            refine Ar.i64 (by omega) (by omega) ?_
            refine ⟨rfl, ?_⟩
            · rw [if_neg (by assumption)] at hst
              exact ⟨⟨i + 1, by omega, by rw [hst]; rfl, o3⟩, by simp; omega⟩
            · rw [if_pos (by assumption)] at hst
              exact ⟨⟨i + 1, by omega, by rw [hst]; rfl, o3⟩, by simp; omega⟩
          · obtain rfl : i = a.length := by omega
            rw [List.take_length, hab, List.take_length, ← hab]
            have hs := sameL_le a b
            refine StillVC.run (StillVC.lenAn (a0.ext o3.ext) (by assumption) sl23 ?_)
            refine Br.dec (fun hc => absurd hc (by omega)) (fun c61 => ?_)
            refine StillVC.run (StillVC.lenAn (a0.ext o3.ext) (by assumption) sl23 ?_)
            refine CallVC.ret (divisor_spec (sameL a b) a.length _ (by omega) (by omega)) ?_
            rintro _ h4 ⟨rfl, oc⟩
            have o4 := o3.ext' oc
            have hg : 0 < Nat.gcd (sameL a b) a.length := Nat.gcd_pos_of_pos_right _ (by omega)
            have hg2 : Nat.gcd (sameL a b) a.length ≤ a.length := Nat.gcd_le_right _ (by omega)
            have hR : estR a b = ((((sameL a b : Nat) : Int) / (Nat.gcd (sameL a b) a.length : Int), (a.length : Int) / (Nat.gcd (sameL a b) a.length : Int)), 0) := by
              unfold estR
              rw [ka, kb, decide_eq_true hab, ← Int.natCast_ediv, ← Int.natCast_ediv]
              rfl
            rw [hR]
            have hq1 : (0 : Int) ≤ (sameL a b : Int) / (Nat.gcd (sameL a b) a.length : Int) := Int.ediv_nonneg (by omega) (by omega)
            have hq2 : (0 : Int) ≤ (a.length : Int) / (Nat.gcd (sameL a b) a.length : Int) := Int.ediv_nonneg (by omega) (by omega)
            have hq3 : (sameL a b : Int) / (Nat.gcd (sameL a b) a.length : Int) ≤ sameL a b := by rw [← Int.natCast_ediv]; exact_mod_cast Nat.div_le_self _ _
            have hq4 : (a.length : Int) / (Nat.gcd (sameL a b) a.length : Int) ≤ a.length := by rw [← Int.natCast_ediv]; exact_mod_cast Nat.div_le_self _ _
            refine DrawVC.intro [0, 1, 2, 3, 4, 5, 6, 7, 9] [] [8] [0, 1, 2, 3, 4, 5, 6, 7, 8, 9] mixed (by kernel_rfl) rfl (fun _ _ _ _ h => h) ?_
            refine StillVC.quoE rfl rfl (by omega) (by omega) (by simp [IntKind.max, IntKind.signed, IntKind.bits]; omega) ?_
            refine StillVC.lenAn (a0.ext o4.ext) (by assumption) sl23 ?_
            refine StillVC.quoE rfl rfl (by omega) (by omega) (by simp [IntKind.max, IntKind.signed, IntKind.bits]; omega) ?_
            refine StillVC.build st31 rfl ?_
            (refine RunVC.store o4 0 rfl ty31 rfl (by simp) (And.intro ⟨rfl, rfl⟩ ?_); intro m74 o74)
            refine RetVC.cell2 rfl o74 0 rfl ty31 rfl rfl ?_
            refine ⟨rfl, ?_⟩
            exact Own.sel (by assumption) [] rfl
      · have hR : estR a b = ((0, 0), 1) := by simp [estR, hab]
        rw [hR]
        refine Br.ff ?_
        refine StillVC.run (StillVC.lenAn (a0.ext o2.ext) (by assumption) sl23 ?_)
        refine StillVC.run (StillVC.lenAn (b0.ext o2.ext) (by assumption) sl23 ?_)
        refine Br.ndec (fun c62 => ?_) (fun hc => absurd hc (by first | omega | assumption | decide))
        refine StillVC.run (StillVC.build st31 rfl ?_)
        (refine RunVC.store o2 0 rfl ty31 rfl (by simp) (And.intro ⟨rfl, rfl⟩ ?_); intro m64 o64)
        refine RetVC.cell2 rfl o64 0 rfl ty31 rfl rfl ?_
        refine ⟨rfl, ?_⟩
        exact Own.sel (by assumption) [] rfl

end Go.Proofs.YtmehgkkpabbmcaaDoor
