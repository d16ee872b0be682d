/-
  The statement ValueTexts of chapter 2, walked.
-/
import Derived.Test.YtffpaippmfafjaaGreatDoorStructs
import Derived.Test.YtffpaippmfafjaaGreatDoorFnHeadV
namespace Go.Proofs.YtffpaippmfafjaaGreatDoor
open Go

theorem valT_len (k n : Int) (t : List UInt8) : (valT k n t).length ≤ 500 := by
  by_cases hv : validP k n t
  · rcases valT_cases hv with ⟨_, _, _, e⟩ | ⟨_, _, hl, e⟩ | ⟨_, _, _, _, e⟩ | ⟨_, _, _, _, e⟩ | ⟨_, _, _, e⟩ | ⟨_, _, _, e⟩
    · rw [e]; decide
    · have := escS_le t
      rw [e]; simp; omega
    · have := itoa_short n (by omega) (by omega)
      rw [e]; omega
    · have := itoa_short n (by omega) (by omega)
      rw [e]; simp; omega
    · rw [e]; decide
    · rw [e]; decide
  · rw [valT_bad hv]; decide

theorem texts_same {k1 n1 : Int} {t1 : List UInt8} {k2 n2 : Int} {t2 : List UInt8} (hv : validP k1 n1 t1) : (valT k1 n1 t1 = valT k2 n2 t2) ↔ (k1 = k2 ∧ n1 = n2 ∧ t1 = t2) := by
  constructor
  · intro e
    by_cases hv2 : validP k2 n2 t2
    · exact valT_inj hv hv2 e
    · rw [valT_bad hv2] at e
      exact absurd e (valT_ne hv)
  · rintro ⟨rfl, rfl, rfl⟩; rfl

set_option maxHeartbeats 8000000 in
set_option maxRecDepth 100000 in
theorem texts_spec (k1 n1 : Int) (t1 : List UInt8) (k2 n2 : Int) (t2 : List UInt8) (s : List UInt8) (h : Heap) (hsl : s.length ≤ 140737488351232) (hT : TabH h) (hV : VarH h) :
    SpecR Tryz.prog 5 [valV k1 n1 t1, valV k2 n2 t2, .string ⟨⟨s⟩⟩] h fun v h' => v = .bool true ∧ Own h [] h' := by
  show SpecR Tryz.prog 5 [.agg ⟨[.int .i64 k1, .int .i64 n1, .string ⟨⟨t1⟩⟩]⟩, .agg ⟨[.int .i64 k2, .int .i64 n2, .string ⟨⟨t2⟩⟩]⟩, .string ⟨⟨s⟩⟩] h _
  refine Spec.enter Tryz.func5 rfl Tryz.ntmps5 (by kernel_rfl) ?_
  have o0 := Own.refl h
  (refine RunVC.boxO o0 rfl ?_; intro b10 m10 o10)
  (refine RunVC.boxO o10 rfl ?_; intro b11 m11 o11)
  refine CallVC.ret (head_spec _ (hT.ext (Own.ext (by assumption))) (hV.ext (Own.ext (by assumption)))) ?_
  rintro _ h1 ⟨rfl, oc⟩
  have p1 : Own h [box b10 [.int .i64 k1, .int .i64 n1, .string ⟨⟨t1⟩⟩] 23, box b11 [.int .i64 k2, .int .i64 n2, .string ⟨⟨t2⟩⟩] 23] h1 := oc.thenE (by assumption)
  clear oc
  refine StillVC.run (StillVC.loadON p1 0 rfl ty23 rfl rfl rfl ?_)
  refine StillVC.run (StillVC.loadON p1 1 rfl ty23 rfl rfl rfl ?_)
  (refine RunVC.litN p1 sl42 ty23 rfl rfl (by decide) ?_)
  refine And.intro rfl ?_
  refine And.intro rfl ?_
  intro b23 m23 o23
  refine CallVC.ret (short_spec [⟨k1, n1, t1⟩, ⟨k2, n2, t2⟩] _ _ (Own.boxArrN (by assumption) 2 rfl rfl (by decide)) (by simp)) ?_
  rintro _ h2 ⟨rfl, oc⟩
  have p2 := oc.thenE (by assumption)
  clear oc p1
  by_cases hsh : shortP [⟨k1, n1, t1⟩, ⟨k2, n2, t2⟩]
  case neg =>
    rw [decide_eq_false hsh]
    refine Br.tt ?_
    refine Br.tt ?_
    refine RetVC.one rfl ?_
    exact ⟨rfl, Own.sel (by assumption) [] rfl⟩
  rw [decide_eq_true hsh]
  have hs1 : t1.length ≤ 500 := hsh ⟨k1, n1, t1⟩ (by simp)
  have hs2 : t2.length ≤ 500 := hsh ⟨k2, n2, t2⟩ (by simp)
  by_cases hs : s.length ≤ 500
  case neg =>
    refine Br.ff ?_
    refine StillVC.run (StillVC.lenS rfl str9 ?_)
    refine Br.dec (fun c41 => ?_) (fun hc => absurd (by omega) hc)
    refine RetVC.one rfl ?_
    exact ⟨rfl, Own.sel (by assumption) [] rfl⟩
  have hl1 := valT_len k1 n1 t1
  refine Br.ff ?_
  refine StillVC.run (StillVC.lenS rfl str9 ?_)
  refine Br.dec (fun hc => absurd hc (by omega)) (fun c51 => ?_)
  refine StillVC.run (StillVC.loadON p2 0 rfl ty23 rfl rfl rfl ?_)
  refine CallVC.ret (text_spec k1 n1 t1 _ (by omega) (hT.ext (Own.ext (by assumption)))) ?_
  rintro _ h60 ⟨rfl, oc⟩
  have p60 := oc.thenE (by assumption)
  clear oc
  refine DrawVC.intro [0, 1, 4, 5, 8, 9, 12, 15, 16, 17, 18] [2, 6, 10, 13, 14] [] [0, 1, 2, 3, 4, 5, 6, 7, 8, 9, 10, 13, 14, 15, 11, 12, 16, 17, 18] mixed (by kernel_rfl) rfl (fun _ _ _ _ h => h) ?_
  refine StillVC.loadON p60 0 rfl ty23 rfl rfl rfl ?_
  refine CallVC.ret (valid_spec k1 n1 t1 _ (by omega)) ?_
  rintro _ h80 ⟨rfl, oc80⟩
  have p80 := oc80.thenE (by assumption)
  by_cases hv : validP k1 n1 t1
  · have hne : ¬ decide (valT k1 n1 t1 = []) = true := by simp [valT_ne hv]
    have hsame : decide (valT k1 n1 t1 = valT k2 n2 t2) = (decide (k1 = k2) && (decide (n1 = n2) && (decide (t1 = t2) && true))) := by rw [Bool.eq_iff_iff]; simp [texts_same hv]
    rw [decide_eq_true hv]
    refine And.intro oc80.ext ?_
    refine StillVC.eqB bool4 rfl rfl ?_
    refine Br.dec (fun hc => absurd hc (by omega)) (fun c91 => ?_)
    refine StillVC.loadON p80 0 rfl ty23 rfl rfl rfl ?_
    refine CallVC.ret (valid_spec k1 n1 t1 _ (by omega)) ?_
    rintro _ h100 ⟨rfl, oc100⟩
    have p100 := oc100.thenE (by assumption)
    rw [decide_eq_true hv]
    refine And.intro oc100.ext ?_
    refine Br.tt ?_
    refine StillVC.loadON p100 1 rfl ty23 rfl rfl rfl ?_
    refine StillVC.loadON p100 0 rfl ty23 rfl rfl rfl ?_
    refine StillVC.loadON p100 1 rfl ty23 rfl rfl rfl ?_
    refine StillVC.eqS pl23 rfl rfl rfl rfl ?_
    refine CallVC.ret (text_spec k2 n2 t2 _ (by omega) (hT.ext (Own.ext (by assumption)))) ?_
    rintro _ h120 ⟨rfl, oc120⟩
    have p120 := oc120.thenE (by assumption)
    refine And.intro oc120.ext ?_
    refine StillVC.neB bool4 rfl rfl ?_
    refine Br.ndec (fun hc => absurd (by first | omega | assumption | decide | exact rfl) hc) (fun c131 => ?_)
    refine CallVC.ret (parse_spec (valT k1 n1 t1) _ (by omega) (hV.ext (Own.ext (by assumption))) (hT.ext (Own.ext (by assumption)))) ?_
    rintro _ h140 ⟨⟨kx, nx, tx, ex, rfl, hPx⟩, oc⟩
    have p140 := oc.thenE (by assumption)
    clear oc
    obtain ⟨rfl, rfl, rfl, rfl⟩ := parse_det hPx hv rfl
    (refine RunVC.alloc p140 ty23 ?_; intro b150 m150 o150)
    (refine RunVC.storeL o150 3 rfl ty23 rfl (by decide) (And.intro ⟨rfl, rfl⟩ ?_); intro m151 o151)
    refine StillVC.run (StillVC.loadON o151 0 rfl ty23 rfl rfl rfl ?_)
    refine CallVC.ret (valid_spec _ _ _ _ (by omega)) ?_
    rintro _ h160 ⟨rfl, oc160⟩
    have p160 := oc160.thenE (by assumption)
    rw [decide_eq_true hv]
    refine Br.tt ?_
    refine Br.ff ?_
    refine StillVC.run (StillVC.loadON p160 3 rfl ty23 rfl rfl rfl ?_)
    refine StillVC.run (StillVC.loadON p160 0 rfl ty23 rfl rfl rfl ?_)
    refine StillVC.run (StillVC.neS pl23 rfl rfl rfl rfl ?_)
    refine Br.ffE (by first | omega | (simp; done)) ?_
    refine StillVC.run (StillVC.loadON p160 0 rfl ty23 rfl rfl rfl ?_)
    refine CallVC.ret (valid_spec _ _ _ _ (by omega)) ?_
    rintro _ h180 ⟨rfl, oc180⟩
    have p180 := oc180.thenE (by assumption)
    rw [decide_eq_true hv]
    refine Br.ff ?_
    refine Br.ff ?_
    refine CallVC.ret (parse_spec s _ (by omega) (hV.ext (Own.ext (by assumption))) (hT.ext (Own.ext (by assumption)))) ?_
    rintro _ h300 ⟨⟨ky, ny, ty, ey, rfl, hPy⟩, oc⟩
    have p300 := oc.thenE (by assumption)
    clear oc
    rcases hPy with ⟨hvy, hey, rfl⟩ | ⟨rfl, rfl, rfl, rfl, _⟩
    · have hly : ty.length ≤ 500 := by rcases valT_cases hvy with ⟨_, _, e, _⟩ | ⟨_, _, e, _⟩ | ⟨_, _, _, e, _⟩ | ⟨_, _, _, e, _⟩ | ⟨_, _, e, _⟩ | ⟨_, _, e, _⟩ <;> first | omega | (rw [e]; decide)
      (refine RunVC.alloc p300 ty23 ?_; intro b310 m310 o310)
      (refine RunVC.storeL o310 4 rfl ty23 rfl (by decide) (And.intro ⟨rfl, rfl⟩ ?_); intro m311 o311)
      refine Br.ff ?_
      refine Br.tt ?_
      refine StillVC.run (StillVC.loadON o311 4 rfl ty23 rfl rfl rfl ?_)
      refine CallVC.ret (valid_spec ky ny ty _ (by omega)) ?_
      rintro _ h320 ⟨rfl, oc320⟩
      have p320 := oc320.thenE (by assumption)
      rw [decide_eq_true hvy]
      refine Br.tt ?_
      refine StillVC.run (StillVC.loadON p320 4 rfl ty23 rfl rfl rfl ?_)
      refine CallVC.ret (text_spec ky ny ty _ (by omega) (hT.ext (Own.ext (by assumption)))) ?_
      rintro _ h340 ⟨rfl, oc340⟩
      have p340 := oc340.thenE (by assumption)
      rw [hey]
      refine RetVC.one rfl ?_
      exact ⟨by simp, Own.sel (by assumption) [] rfl⟩
    · (refine RunVC.alloc p300 ty23 ?_; intro b360 m360 o360)
      (refine RunVC.storeL o360 4 rfl ty23 rfl (by decide) (And.intro ⟨rfl, rfl⟩ ?_); intro m361 o361)
      refine Br.tt ?_
      refine Br.tt ?_
      refine Br.tt ?_
      refine StillVC.run (StillVC.loadON o361 4 rfl ty23 rfl rfl rfl ?_)
      refine StillVC.run (StillVC.buildK st23 ?_)
      refine StillVC.run (StillVC.eqS pl23 rfl rfl rfl rfl ?_)
      refine RetVC.one rfl ?_
      exact ⟨by simp, Own.sel (by assumption) [] rfl⟩
  · rw [decide_eq_false hv]
    have hnil : ¬ decide (valT k1 n1 t1 = []) = false := by simp [valT_bad hv]
    refine And.intro oc80.ext ?_
    refine StillVC.eqB bool4 rfl rfl ?_
    refine Br.dec (fun hc => absurd hc (by omega)) (fun c401 => ?_)
    refine StillVC.loadON p80 0 rfl ty23 rfl rfl rfl ?_
    refine CallVC.ret (valid_spec k1 n1 t1 _ (by omega)) ?_
    rintro _ h420 ⟨rfl, oc420⟩
    have p420 := oc420.thenE (by assumption)
    rw [decide_eq_false hv]
    refine And.intro oc420.ext ?_
    refine Br.ff ?_
    refine Br.ff ?_
    refine CallVC.ret (parse_spec (valT k1 n1 t1) _ (by omega) (hV.ext (Own.ext (by assumption))) (hT.ext (Own.ext (by assumption)))) ?_
    rintro _ h440 ⟨⟨kx, nx, tx, ex, rfl, hPx⟩, oc⟩
    have p440 := oc.thenE (by assumption)
    clear oc
    rw [valT_bad hv] at hPx
    obtain ⟨rfl, rfl, rfl, rfl⟩ := parse_nil hPx
    (refine RunVC.alloc p440 ty23 ?_; intro b450 m450 o450)
    (refine RunVC.storeL o450 3 rfl ty23 rfl (by decide) (And.intro ⟨rfl, rfl⟩ ?_); intro m451 o451)
    refine StillVC.run (StillVC.loadON o451 0 rfl ty23 rfl rfl rfl ?_)
    refine CallVC.ret (valid_spec k1 n1 t1 _ (by omega)) ?_
    rintro _ h460 ⟨rfl, oc460⟩
    have p460 := oc460.thenE (by assumption)
    rw [decide_eq_false hv]
    refine Br.ff ?_
    refine StillVC.run (StillVC.loadON p460 0 rfl ty23 rfl rfl rfl ?_)
    refine CallVC.ret (valid_spec k1 n1 t1 _ (by omega)) ?_
    rintro _ h480 ⟨rfl, oc480⟩
    have p480 := oc480.thenE (by assumption)
    rw [decide_eq_false hv]
    refine Br.tt ?_
    refine Br.ff ?_
    refine CallVC.ret (parse_spec s _ (by omega) (hV.ext (Own.ext (by assumption))) (hT.ext (Own.ext (by assumption)))) ?_
    rintro _ h600 ⟨⟨ky, ny, ty, ey, rfl, hPy⟩, oc⟩
    have p600 := oc.thenE (by assumption)
    clear oc
    rcases hPy with ⟨hvy, hey, rfl⟩ | ⟨rfl, rfl, rfl, rfl, _⟩
    · have hly : ty.length ≤ 500 := by rcases valT_cases hvy with ⟨_, _, e, _⟩ | ⟨_, _, e, _⟩ | ⟨_, _, _, e, _⟩ | ⟨_, _, _, e, _⟩ | ⟨_, _, e, _⟩ | ⟨_, _, e, _⟩ <;> first | omega | (rw [e]; decide)
      (refine RunVC.alloc p600 ty23 ?_; intro b610 m610 o610)
      (refine RunVC.storeL o610 4 rfl ty23 rfl (by decide) (And.intro ⟨rfl, rfl⟩ ?_); intro m611 o611)
      refine Br.ff ?_
      refine Br.tt ?_
      refine StillVC.run (StillVC.loadON o611 4 rfl ty23 rfl rfl rfl ?_)
      refine CallVC.ret (valid_spec ky ny ty _ (by omega)) ?_
      rintro _ h620 ⟨rfl, oc620⟩
      have p620 := oc620.thenE (by assumption)
      rw [decide_eq_true hvy]
      refine Br.tt ?_
      refine StillVC.run (StillVC.loadON p620 4 rfl ty23 rfl rfl rfl ?_)
      refine CallVC.ret (text_spec ky ny ty _ (by omega) (hT.ext (Own.ext (by assumption)))) ?_
      rintro _ h640 ⟨rfl, oc640⟩
      have p640 := oc640.thenE (by assumption)
      rw [hey]
      refine RetVC.one rfl ?_
      exact ⟨by simp, Own.sel (by assumption) [] rfl⟩
    · (refine RunVC.alloc p600 ty23 ?_; intro b660 m660 o660)
      (refine RunVC.storeL o660 4 rfl ty23 rfl (by decide) (And.intro ⟨rfl, rfl⟩ ?_); intro m661 o661)
      refine Br.tt ?_
      refine Br.tt ?_
      refine Br.tt ?_
      refine StillVC.run (StillVC.loadON o661 4 rfl ty23 rfl rfl rfl ?_)
      refine StillVC.run (StillVC.buildK st23 ?_)
      refine StillVC.run (StillVC.eqS pl23 rfl rfl rfl rfl ?_)
      refine RetVC.one rfl ?_
      exact ⟨by simp, Own.sel (by assumption) [] rfl⟩

end Go.Proofs.YtffpaippmfafjaaGreatDoor
