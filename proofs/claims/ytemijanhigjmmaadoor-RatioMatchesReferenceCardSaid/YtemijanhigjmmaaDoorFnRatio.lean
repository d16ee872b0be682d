/-
  Ratios: the greatest common divisor, and the making of a ratio in lowest terms.
-/
import Derived.Test.YtemijanhigjmmaaDoorStructs
namespace Go.Proofs.YtemijanhigjmmaaDoor
open Go

abbrev u64s (us : List Nat) : List Value := us.map fun (n : Nat) => Value.int .u64 (n : Int)

def ratV (r : Int × Int) : Value := .agg ⟨[.int .i64 r.1, .int .i64 r.2]⟩

set_option maxRecDepth 100000 in
theorem magnitude_spec (n : Int) (h : Heap) (lo : -9223372036854775808 ≤ n) (hi : n ≤ 9223372036854775807) :
    SpecR Tryd.prog 32 [.int .i64 n] h fun r h' => r = .int .u64 n.natAbs ∧ Own h [] h' := by
  refine Spec.enter Tryd.func32 rfl Tryd.ntmps32 (by kernel_rfl) ?_
  have o0 := Own.refl h
  by_cases hn : n < 0
  · refine Br.dec (fun c10 => ?_) (fun hc => absurd (by omega) hc)
    refine StillVC.run (StillVC.convI rfl int3 int28 ?_)
    refine Ar.u64w ?_
    refine Ar.u64w ?_
    refine RetVC.one rfl ?_
    refine ⟨?_, o0⟩
    congr 1
    omega
  · refine Br.dec (fun hc => absurd hc (by omega)) (fun c10 => ?_)
    refine StillVC.run (StillVC.convI rfl int3 int28 ?_)
    refine Ar.u64 (by omega) (by omega) ?_
    refine RetVC.one rfl ?_
    refine ⟨?_, o0⟩
    congr 1
    omega

set_option maxRecDepth 100000 in
theorem common_spec (us : List Nat) (v : Value) (h : Heap) (a0 : Arr h v (u64s us)) (hl : us.length ≤ 1000000000) (hu : ∀ u ∈ us, u < 18446744073709551616) :
    SpecR Tryd.prog 33 [v] h fun r h' => r = .int .u64 (us.foldl Nat.gcd 0 : Nat) ∧ Own h [] h' := by
  refine Spec.enter Tryd.func33 rfl Tryd.ntmps33 (by kernel_rfl) ?_
  have o0 := Own.refl h
  have ln : (u64s us).length = us.length := by simp
  refine StillVC.run (StillVC.lenAn a0 (by assumption) sl58 ?_)
  refine LoopVC.intro [3, 5, 8, 9, 10, 11, 12, 13, 14, 15, 16, 17, 18] [3, 8] (fun vs hh => hh = h ∧ ∃ (i : Nat), i ≤ us.length ∧ vs = [.int .u64 ((us.take i).foldl Nat.gcd 0 : Nat), .int .i64 i]) (fun vs _ => match vs with | [_, .int _ i] => us.length - i.toNat | _ => 0) ?_ ?_
  · exact ⟨rfl, 0, by omega, rfl⟩
  · rintro vs junk h2 ⟨rfl, i, hi, rfl⟩
    by_cases hlt : i < us.length
    · obtain ⟨u, hu'⟩ := getx hlt
      have hlu := hu u (List.mem_of_getElem? hu')
      have hstep : (us.take (i + 1)).foldl Nat.gcd 0 = Nat.gcd ((us.take i).foldl Nat.gcd 0) u := by
        rw [List.take_add_one, hu']
        simp
      refine Br.dec (fun c20 => ?_) (fun hc => absurd (by omega) hc)
      refine StillVC.run (StillVC.idx sl58 ty28 a0 rfl (by omega) (by omega) ?_)
      refine StillVC.run (StillVC.loadM a0 ty28 rfl (by first | assumption | rfl) ?_)
      refine LoopVC.intro [3, 5, 12, 13, 14, 15, 16, 17] [3, 5] (fun vs hh => hh = h2 ∧ ∃ (g x : Nat), x < 18446744073709551616 ∧ vs = [.int .u64 g, .int .u64 x] ∧ Nat.gcd g x = (us.take (i + 1)).foldl Nat.gcd 0) (fun vs _ => match vs with | [_, .int _ x] => x.toNat | _ => 0) ?_ ?_
      · exact ⟨rfl, _, u, hlu, rfl, hstep.symm⟩
      · rintro vs junk h3 ⟨rfl, g, x, hx, rfl, hg⟩
        by_cases hx0 : x = 0
        · subst hx0
          refine Br.ff ?_
          refine Ar.i64 (by omega) (by omega) ?_
          refine ⟨rfl, ?_⟩
          rw [Nat.gcd_zero_right] at hg
          exact ⟨⟨rfl, i + 1, by omega, by rw [hg]; rfl⟩, by simp; omega⟩
        · refine Br.ndec (fun c40 => ?_) (fun hc => absurd hc (by first | omega | assumption | decide | exact rfl))
          refine DrawVC.intro [0, 1, 2, 3, 4, 5] [] [] [0, 1, 2, 3, 4, 5] mixed (by kernel_rfl) rfl (fun _ _ _ _ h => h) ?_
          refine StillVC.remE rfl rfl (by omega) (by omega) ?_
          refine ⟨rfl, ?_⟩
          have hlt2 : g % x < x := Nat.mod_lt _ (by omega)
          refine ⟨⟨rfl, x, g % x, by omega, rfl, ?_⟩, ?_⟩
          · rw [← hg, Nat.gcd_comm x, ← Nat.gcd_rec, Nat.gcd_comm]
          · show (((g : Int) % (x : Int)).toNat) < ((x : Int).toNat)
            omega
    · refine Br.dec (fun hc => absurd hc (by omega)) (fun c50 => ?_)
      refine RetVC.one rfl ?_
      obtain rfl : i = us.length := by omega
      exact ⟨by rw [List.take_length], o0⟩

def reducedR (minus : Bool) (num den : Nat) : (Int × Int) × Int :=
  if 1000000000 < num / Nat.gcd num den ∨ 1000000000 < den / Nat.gcd num den then ((0, 0), 2)
  else ((if minus then -((num / Nat.gcd num den : Nat) : Int) else (num / Nat.gcd num den : Nat), (den / Nat.gcd num den : Nat)), 0)

set_option maxRecDepth 100000 in
theorem reduced_spec (minus : Bool) (num den : Nat) (h : Heap) (hn : num < 18446744073709551616) (hd : den < 18446744073709551616) (h0 : 0 < den) :
    SpecR Tryd.prog 31 [.bool minus, .int .u64 num, .int .u64 den] h fun r h' => r = .tuple ⟨[ratV (reducedR minus num den).1, .int .i64 (reducedR minus num den).2]⟩ ∧ Own h [] h' := by
  refine Spec.enter Tryd.func31 rfl Tryd.ntmps31 (by kernel_rfl) ?_
  have o0 := Own.refl h
  (refine RunVC.alloc o0 ty24 ?_; intro b10 m10 o10)
  (refine RunVC.lit o10 sl58 ty28 rfl rfl (by decide) (And.intro rfl ?_); intro b11 m11 o11)
  refine CallVC.ret (common_spec [num, den] _ _ (o11.boxArr 1 rfl rfl (Nat.le_refl _)) (by simp) (by simp; omega)) ?_
  rintro _ h1 ⟨rfl, oc⟩
  have o1 := o11.ext' oc
  have hg : [num, den].foldl Nat.gcd 0 = Nat.gcd num den := by simp
  rw [hg]
  have hg0 : 0 < Nat.gcd num den := Nat.gcd_pos_of_pos_right _ h0
  have hqn : (0 : Int) ≤ (num : Int) / (Nat.gcd num den : Int) := Int.ediv_nonneg (by omega) (by omega)
  have hqd : (0 : Int) ≤ (den : Int) / (Nat.gcd num den : Int) := Int.ediv_nonneg (by omega) (by omega)
  have en : ((num / Nat.gcd num den : Nat) : Int) = (num : Int) / (Nat.gcd num den : Int) := Int.natCast_ediv _ _
  have ed : ((den / Nat.gcd num den : Nat) : Int) = (den : Int) / (Nat.gcd num den : Int) := Int.natCast_ediv _ _
  have big : 1000000000 < (num : Int) / (Nat.gcd num den : Int) ∨ 1000000000 < (den : Int) / (Nat.gcd num den : Int) → reducedR minus num den = ((0, 0), 2) := by
    intro hb
    rw [← en, ← ed] at hb
    exact if_pos (by omega)
  have small : ¬ 1000000000 < (num : Int) / (Nat.gcd num den : Int) → ¬ 1000000000 < (den : Int) / (Nat.gcd num den : Int) →
      reducedR minus num den = ((if minus then -((num : Int) / (Nat.gcd num den : Int)) else (num : Int) / (Nat.gcd num den : Int), (den : Int) / (Nat.gcd num den : Int)), 0) := by
    intro ha hb
    rw [← en] at ha ⊢
    rw [← ed] at hb ⊢
    exact if_neg (by omega)
  refine DrawVC.intro [0, 1, 2, 3, 4, 5, 6, 7] [] [] [0, 1, 2, 3, 4, 5, 6, 7] mixed (by kernel_rfl) rfl (fun _ _ _ _ h => h) ?_
  refine StillVC.quoE rfl rfl (by omega) (by omega) (by simp [IntKind.max, IntKind.signed, IntKind.bits]; omega) ?_
  refine StillVC.quoE rfl rfl (by omega) (by omega) (by simp [IntKind.max, IntKind.signed, IntKind.bits]; omega) ?_
  refine Br.dec (fun c22 => ?_) (fun c22 => ?_)
  refine Br.tt ?_
  refine StillVC.run (StillVC.buildK st24 ?_)
  (refine RunVC.storeL o1 0 rfl ty24 rfl (by decide) (And.intro ⟨rfl, rfl⟩ ?_); intro m24 o24)
  refine RetVC.cell2 rfl o24 0 rfl ty24 rfl rfl ?_
  rotate_left
  refine Br.dec (fun c25 => ?_) (fun c25 => ?_)
  refine StillVC.run (StillVC.buildK st24 ?_)
  (refine RunVC.storeL o1 0 rfl ty24 rfl (by decide) (And.intro ⟨rfl, rfl⟩ ?_); intro m27 o27)
  refine RetVC.cell2 rfl o27 0 rfl ty24 rfl rfl ?_
  rotate_left
  refine Br.mk (fun c28 => ?_) (fun c28 => ?_)
  refine StillVC.run (StillVC.convI rfl int28 int3 ?_)
  refine Ar.i64 (by omega) (by omega) ?_
  refine Ar.i64 (by omega) (by omega) ?_
  refine StillVC.run (StillVC.convI rfl int28 int3 ?_)
  refine Ar.i64 (by omega) (by omega) ?_
  refine StillVC.run (StillVC.buildK st24 ?_)
  refine And.intro rfl ?_
  refine And.intro rfl ?_
  (refine RunVC.storeL o1 0 rfl ty24 rfl (by decide) (And.intro ⟨rfl, rfl⟩ ?_); intro m32 o32)
  refine RetVC.cell2 rfl o32 0 rfl ty24 rfl rfl ?_
  rotate_left
  refine StillVC.run (StillVC.convI rfl int28 int3 ?_)
  refine Ar.i64 (by omega) (by omega) ?_
  refine StillVC.run (StillVC.convI rfl int28 int3 ?_)
  refine Ar.i64 (by omega) (by omega) ?_
  refine StillVC.run (StillVC.buildK st24 ?_)
  refine And.intro rfl ?_
  refine And.intro rfl ?_
  (refine RunVC.storeL o1 0 rfl ty24 rfl (by decide) (And.intro ⟨rfl, rfl⟩ ?_); intro m36 o36)
  refine RetVC.cell2 rfl o36 0 rfl ty24 rfl rfl ?_
  · rw [small (by assumption) (by assumption), ‹minus = false›]
    refine ⟨rfl, ?_⟩
    exact Own.sel (by assumption) [] rfl
  · rw [big (.inl (by assumption))]
    exact ⟨rfl, o24.sel [] rfl⟩
  · rw [big (.inr (by assumption))]
    exact ⟨rfl, o27.sel [] rfl⟩
  · rw [small (by assumption) (by assumption), ‹minus = true›]
    refine ⟨?_, ?_⟩
    · show Value.tuple ⟨[ratV (0 - (num : Int) / (Nat.gcd num den : Int), (den : Int) / (Nat.gcd num den : Int)), .int .i64 0]⟩ = _
      rw [Int.zero_sub]
      rfl
    · exact Own.sel (by assumption) [] rfl

def ratioR (num den : Int) : (Int × Int) × Int := if den = 0 then ((0, 0), 1) else reducedR (!decide (decide (num < 0) = decide (den < 0))) num.natAbs den.natAbs

set_option maxRecDepth 100000 in
theorem ratioMake_spec (num den : Int) (h : Heap) (n0 : -9223372036854775808 ≤ num) (n1 : num ≤ 9223372036854775807) (d0 : -9223372036854775808 ≤ den) (d1 : den ≤ 9223372036854775807) :
    SpecR Tryd.prog 11 [.int .i64 num, .int .i64 den] h fun r h' => r = .tuple ⟨[ratV (ratioR num den).1, .int .i64 (ratioR num den).2]⟩ ∧ Own h [] h' := by
  refine Spec.enter Tryd.func11 rfl Tryd.ntmps11 (by kernel_rfl) ?_
  have o0 := Own.refl h
  by_cases hd : den = 0
  · subst hd
    (refine RunVC.alloc o0 ty24 ?_; intro b10 m10 o10)
    refine Br.tt ?_
    refine StillVC.run (StillVC.buildK st24 ?_)
    (refine RunVC.storeL o10 0 rfl ty24 rfl (by decide) (And.intro ⟨rfl, rfl⟩ ?_); intro m12 o12)
    refine RetVC.cell2 rfl o12 0 rfl ty24 rfl rfl ?_
    exact ⟨rfl, o12.sel [] rfl⟩
  · (refine RunVC.alloc o0 ty24 ?_; intro b20 m20 o20)
    refine Br.dec (fun hc => absurd hc (by omega)) (fun c21 => ?_)
    refine StillVC.run (StillVC.neB bool4 rfl rfl ?_)
    refine CallVC.ret (magnitude_spec num _ n0 n1) ?_
    rintro _ h1 ⟨rfl, oa⟩
    have o1 := o20.ext' oa
    refine CallVC.ret (magnitude_spec den _ d0 d1) ?_
    rintro _ h2 ⟨rfl, ob⟩
    have o2 := o1.ext' ob
    refine CallVC.ret (reduced_spec _ num.natAbs den.natAbs _ (by omega) (by omega) (by omega)) ?_
    rintro _ h3 ⟨rfl, oc⟩
    have o3 := o2.ext' oc
    have hR : ratioR num den = reducedR (!decide (decide (num < 0) = decide (den < 0))) num.natAbs den.natAbs := if_neg hd
    rw [hR]
    generalize reducedR (!decide (decide (num < 0) = decide (den < 0))) num.natAbs den.natAbs = R
    obtain ⟨⟨x, y⟩, e⟩ := R
    (refine RunVC.storeL o3 0 rfl ty24 rfl (by decide) (And.intro ⟨rfl, rfl⟩ ?_); intro m50 o50)
    refine RetVC.cell2 rfl o50 0 rfl ty24 rfl rfl ?_
    exact ⟨rfl, o50.sel [] rfl⟩

end Go.Proofs.YtemijanhigjmmaaDoor
