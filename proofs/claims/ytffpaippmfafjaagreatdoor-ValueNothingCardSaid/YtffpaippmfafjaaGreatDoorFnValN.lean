/-
  The statement ValueNothing of chapter 2, walked.
-/
import Derived.Test.YtffpaippmfafjaaGreatDoorStructs
import Derived.Test.YtffpaippmfafjaaGreatDoorFnHeadV
namespace Go.Proofs.YtffpaippmfafjaaGreatDoor
open Go

set_option maxHeartbeats 8000000 in
set_option maxRecDepth 100000 in
theorem nothing_spec (k1 n1 : Int) (t1 : List UInt8) (k2 n2 : Int) (t2 : List UInt8) (op add : Int) (h : Heap) (hT : TabH h) (hV : VarH h) :
    SpecR Tryz.prog 9 [valV k1 n1 t1, valV k2 n2 t2, .int .i64 op, .int .i64 add] h fun v h' => v = .bool true ∧ Own h [] h' := by
  show SpecR Tryz.prog 9 [.agg ⟨[.int .i64 k1, .int .i64 n1, .string ⟨⟨t1⟩⟩]⟩, .agg ⟨[.int .i64 k2, .int .i64 n2, .string ⟨⟨t2⟩⟩]⟩, .int .i64 op, .int .i64 add] h _
  refine Spec.enter Tryz.func9 rfl Tryz.ntmps9 (by kernel_rfl) ?_
  have o0 := Own.refl h
  (refine RunVC.boxO o0 rfl ?_; intro b10 m10 o10)
  (refine RunVC.boxO o10 rfl ?_; intro b11 m11 o11)
  refine CallVC.ret (head_spec _ (hT.ext (Own.ext (by assumption))) (hV.ext (Own.ext (by assumption)))) ?_
  rintro _ h1 ⟨rfl, oc⟩
  have p1 : Own h [box b10 [.int .i64 k1, .int .i64 n1, .string ⟨⟨t1⟩⟩] 23, box b11 [.int .i64 k2, .int .i64 n2, .string ⟨⟨t2⟩⟩] 23] h1 := oc.thenE (by assumption)
  clear oc
  refine StillVC.run (StillVC.loadON p1 0 rfl ty23 rfl rfl rfl ?_)
  refine StillVC.run (StillVC.loadON p1 1 rfl ty23 rfl rfl rfl ?_)
  (refine RunVC.litN p1 sl42 ty23 rfl rfl (by decide) ?_)
  refine And.intro rfl ?_
  refine And.intro rfl ?_
  intro b23 m23 o23
  refine CallVC.ret (short_spec [⟨k1, n1, t1⟩, ⟨k2, n2, t2⟩] _ _ (Own.boxArrN (by assumption) 2 rfl rfl (by decide)) (by simp)) ?_
  rintro _ h2 ⟨rfl, oc⟩
  have p2 := oc.thenE (by assumption)
  clear oc p1
  by_cases hsh : shortP [⟨k1, n1, t1⟩, ⟨k2, n2, t2⟩]
  case neg =>
    rw [decide_eq_false hsh]
    refine Br.tt ?_
    refine RetVC.one rfl ?_
    exact ⟨rfl, Own.sel (by assumption) [] rfl⟩
  rw [decide_eq_true hsh]
  have hs1 : t1.length ≤ 500 := hsh ⟨k1, n1, t1⟩ (by simp)
  have hs2 : t2.length ≤ 500 := hsh ⟨k2, n2, t2⟩ (by simp)
  refine Br.ff ?_
  refine StillVC.run (StillVC.loadON p2 0 rfl ty23 rfl rfl rfl ?_)
  refine CallVC.ret (valid_spec k1 n1 t1 _ (by omega)) ?_
  rintro _ h50 ⟨rfl, oc⟩
  have p50 := oc.thenE (by assumption)
  clear oc
  by_cases hv1 : validP k1 n1 t1
  case neg =>
    rw [decide_eq_false hv1]
    refine Br.tt ?_
    refine Br.tt ?_
    refine Br.tt ?_
    refine Br.ff ?_
    refine StillVC.run (StillVC.loadON p50 0 rfl ty23 rfl rfl rfl ?_)
    refine StillVC.run (StillVC.loadON p50 1 rfl ty23 rfl rfl rfl ?_)
    refine CallVC.ret (test_spec k1 n1 t1 op k2 n2 t2 add _ (by omega) (by omega)) ?_
    rintro _ h340 ⟨rfl, oc⟩
    have p340 := oc.thenE (by assumption)
    clear oc
    rw [test_none (.inl hv1)]
    refine Br.tt ?_
    refine StillVC.run (StillVC.loadON p340 0 rfl ty23 rfl rfl rfl ?_)
    refine StillVC.run (StillVC.buildK st23 ?_)
    refine CallVC.ret (test_spec k1 n1 t1 op 0 0 [] add _ (by omega) (by decide)) ?_
    rintro _ h380 ⟨rfl, oc⟩
    have p380 := oc.thenE (by assumption)
    clear oc
    rw [test_null]
    refine Br.tt ?_
    refine StillVC.run (StillVC.buildK st23 ?_)
    refine StillVC.run (StillVC.loadON p380 1 rfl ty23 rfl rfl rfl ?_)
    refine CallVC.ret (test_spec 0 0 [] op k2 n2 t2 add _ (by decide) (by omega)) ?_
    rintro _ h420 ⟨rfl, oc⟩
    have p420 := oc.thenE (by assumption)
    clear oc
    rw [test_null']
    refine RetVC.one rfl ?_
    exact ⟨rfl, Own.sel (by assumption) [] rfl⟩
  rw [decide_eq_true hv1]
  refine Br.ff ?_
  refine StillVC.run (StillVC.loadON p50 1 rfl ty23 rfl rfl rfl ?_)
  refine CallVC.ret (valid_spec k2 n2 t2 _ (by omega)) ?_
  rintro _ h80 ⟨rfl, oc⟩
  have p80 := oc.thenE (by assumption)
  clear oc
  by_cases hv2 : validP k2 n2 t2
  case neg =>
    rw [decide_eq_false hv2]
    refine Br.tt ?_
    refine Br.tt ?_
    refine Br.tt ?_
    refine Br.ff ?_
    refine StillVC.run (StillVC.loadON p80 0 rfl ty23 rfl rfl rfl ?_)
    refine StillVC.run (StillVC.loadON p80 1 rfl ty23 rfl rfl rfl ?_)
    refine CallVC.ret (test_spec k1 n1 t1 op k2 n2 t2 add _ (by omega) (by omega)) ?_
    rintro _ h480 ⟨rfl, oc⟩
    have p480 := oc.thenE (by assumption)
    clear oc
    rw [test_none (.inr (.inl hv2))]
    refine Br.tt ?_
    refine StillVC.run (StillVC.loadON p480 0 rfl ty23 rfl rfl rfl ?_)
    refine StillVC.run (StillVC.buildK st23 ?_)
    refine CallVC.ret (test_spec k1 n1 t1 op 0 0 [] add _ (by omega) (by decide)) ?_
    rintro _ h520 ⟨rfl, oc⟩
    have p520 := oc.thenE (by assumption)
    clear oc
    rw [test_null]
    refine Br.tt ?_
    refine StillVC.run (StillVC.buildK st23 ?_)
    refine StillVC.run (StillVC.loadON p520 1 rfl ty23 rfl rfl rfl ?_)
    refine CallVC.ret (test_spec 0 0 [] op k2 n2 t2 add _ (by decide) (by omega)) ?_
    rintro _ h560 ⟨rfl, oc⟩
    have p560 := oc.thenE (by assumption)
    clear oc
    rw [test_null']
    refine RetVC.one rfl ?_
    exact ⟨rfl, Own.sel (by assumption) [] rfl⟩
  rw [decide_eq_true hv2]
  by_cases hk : k1 = k2
  case neg =>
    refine Br.ff ?_
    refine StillVC.run (StillVC.fieldAddr st23 rfl rfl rfl ?_)
    refine StillVC.run (StillVC.loadO p80 0 rfl ty3 rfl rfl ?_)
    refine StillVC.run (StillVC.fieldAddr st23 rfl rfl rfl ?_)
    refine StillVC.run (StillVC.loadO p80 1 rfl ty3 rfl rfl ?_)
    refine Br.ndec (fun c604 => ?_) (fun hc => absurd hc (by first | omega | assumption | decide | exact rfl))
    refine Br.tt ?_
    refine Br.tt ?_
    refine Br.ff ?_
    refine StillVC.run (StillVC.loadON p80 0 rfl ty23 rfl rfl rfl ?_)
    refine StillVC.run (StillVC.loadON p80 1 rfl ty23 rfl rfl rfl ?_)
    refine CallVC.ret (test_spec k1 n1 t1 op k2 n2 t2 add _ (by omega) (by omega)) ?_
    rintro _ h620 ⟨rfl, oc⟩
    have p620 := oc.thenE (by assumption)
    clear oc
    rw [test_none (.inr (.inr (.inl hk)))]
    refine Br.tt ?_
    refine StillVC.run (StillVC.loadON p620 0 rfl ty23 rfl rfl rfl ?_)
    refine StillVC.run (StillVC.buildK st23 ?_)
    refine CallVC.ret (test_spec k1 n1 t1 op 0 0 [] add _ (by omega) (by decide)) ?_
    rintro _ h660 ⟨rfl, oc⟩
    have p660 := oc.thenE (by assumption)
    clear oc
    rw [test_null]
    refine Br.tt ?_
    refine StillVC.run (StillVC.buildK st23 ?_)
    refine StillVC.run (StillVC.loadON p660 1 rfl ty23 rfl rfl rfl ?_)
    refine CallVC.ret (test_spec 0 0 [] op k2 n2 t2 add _ (by decide) (by omega)) ?_
    rintro _ h700 ⟨rfl, oc⟩
    have p700 := oc.thenE (by assumption)
    clear oc
    rw [test_null']
    refine RetVC.one rfl ?_
    exact ⟨rfl, Own.sel (by assumption) [] rfl⟩
  by_cases hc : k1 = 0
  case pos =>
    refine Br.ff ?_
    refine StillVC.run (StillVC.fieldAddr st23 rfl rfl rfl ?_)
    refine StillVC.run (StillVC.loadO p80 0 rfl ty3 rfl rfl ?_)
    refine StillVC.run (StillVC.fieldAddr st23 rfl rfl rfl ?_)
    refine StillVC.run (StillVC.loadO p80 1 rfl ty3 rfl rfl ?_)
    refine Br.ndec (fun hc => absurd (by first | omega | assumption | decide | exact rfl) hc) (fun c744 => ?_)
    refine StillVC.run (StillVC.fieldAddr st23 rfl rfl rfl ?_)
    refine StillVC.run (StillVC.loadO p80 0 rfl ty3 rfl rfl ?_)
    refine Br.dec (fun c747 => ?_) (fun hc => absurd (by omega) hc)
    refine Br.tt ?_
    refine Br.tt ?_
    refine Br.ff ?_
    refine StillVC.run (StillVC.loadON p80 0 rfl ty23 rfl rfl rfl ?_)
    refine StillVC.run (StillVC.loadON p80 1 rfl ty23 rfl rfl rfl ?_)
    refine CallVC.ret (test_spec k1 n1 t1 op k2 n2 t2 add _ (by omega) (by omega)) ?_
    rintro _ h760 ⟨rfl, oc⟩
    have p760 := oc.thenE (by assumption)
    clear oc
    rw [test_none (.inr (.inr (.inr (.inl hc))))]
    refine Br.tt ?_
    refine StillVC.run (StillVC.loadON p760 0 rfl ty23 rfl rfl rfl ?_)
    refine StillVC.run (StillVC.buildK st23 ?_)
    refine CallVC.ret (test_spec k1 n1 t1 op 0 0 [] add _ (by omega) (by decide)) ?_
    rintro _ h800 ⟨rfl, oc⟩
    have p800 := oc.thenE (by assumption)
    clear oc
    rw [test_null]
    refine Br.tt ?_
    refine StillVC.run (StillVC.buildK st23 ?_)
    refine StillVC.run (StillVC.loadON p800 1 rfl ty23 rfl rfl rfl ?_)
    refine CallVC.ret (test_spec 0 0 [] op k2 n2 t2 add _ (by decide) (by omega)) ?_
    rintro _ h840 ⟨rfl, oc⟩
    have p840 := oc.thenE (by assumption)
    clear oc
    rw [test_null']
    refine RetVC.one rfl ?_
    exact ⟨rfl, Own.sel (by assumption) [] rfl⟩
  by_cases hc : op < 1
  case pos =>
    refine Br.ff ?_
    refine StillVC.run (StillVC.fieldAddr st23 rfl rfl rfl ?_)
    refine StillVC.run (StillVC.loadO p80 0 rfl ty3 rfl rfl ?_)
    refine StillVC.run (StillVC.fieldAddr st23 rfl rfl rfl ?_)
    refine StillVC.run (StillVC.loadO p80 1 rfl ty3 rfl rfl ?_)
    refine Br.ndec (fun hc => absurd (by first | omega | assumption | decide | exact rfl) hc) (fun c884 => ?_)
    refine StillVC.run (StillVC.fieldAddr st23 rfl rfl rfl ?_)
    refine StillVC.run (StillVC.loadO p80 0 rfl ty3 rfl rfl ?_)
    refine Br.dec (fun hc => absurd hc (by omega)) (fun c887 => ?_)
    refine Br.dec (fun c888 => ?_) (fun hc => absurd (by omega) hc)
    refine Br.tt ?_
    refine Br.tt ?_
    refine Br.ff ?_
    refine StillVC.run (StillVC.loadON p80 0 rfl ty23 rfl rfl rfl ?_)
    refine StillVC.run (StillVC.loadON p80 1 rfl ty23 rfl rfl rfl ?_)
    refine CallVC.ret (test_spec k1 n1 t1 op k2 n2 t2 add _ (by omega) (by omega)) ?_
    rintro _ h900 ⟨rfl, oc⟩
    have p900 := oc.thenE (by assumption)
    clear oc
    rw [test_none (.inr (.inr (.inr (.inr (.inl hc)))))]
    refine Br.tt ?_
    refine StillVC.run (StillVC.loadON p900 0 rfl ty23 rfl rfl rfl ?_)
    refine StillVC.run (StillVC.buildK st23 ?_)
    refine CallVC.ret (test_spec k1 n1 t1 op 0 0 [] add _ (by omega) (by decide)) ?_
    rintro _ h940 ⟨rfl, oc⟩
    have p940 := oc.thenE (by assumption)
    clear oc
    rw [test_null]
    refine Br.tt ?_
    refine StillVC.run (StillVC.buildK st23 ?_)
    refine StillVC.run (StillVC.loadON p940 1 rfl ty23 rfl rfl rfl ?_)
    refine CallVC.ret (test_spec 0 0 [] op k2 n2 t2 add _ (by decide) (by omega)) ?_
    rintro _ h980 ⟨rfl, oc⟩
    have p980 := oc.thenE (by assumption)
    clear oc
    rw [test_null']
    refine RetVC.one rfl ?_
    exact ⟨rfl, Own.sel (by assumption) [] rfl⟩
  by_cases hc : 4 < op
  case pos =>
    refine Br.ff ?_
    refine StillVC.run (StillVC.fieldAddr st23 rfl rfl rfl ?_)
    refine StillVC.run (StillVC.loadO p80 0 rfl ty3 rfl rfl ?_)
    refine StillVC.run (StillVC.fieldAddr st23 rfl rfl rfl ?_)
    refine StillVC.run (StillVC.loadO p80 1 rfl ty3 rfl rfl ?_)
    refine Br.ndec (fun hc => absurd (by first | omega | assumption | decide | exact rfl) hc) (fun c1024 => ?_)
    refine StillVC.run (StillVC.fieldAddr st23 rfl rfl rfl ?_)
    refine StillVC.run (StillVC.loadO p80 0 rfl ty3 rfl rfl ?_)
    refine Br.dec (fun hc => absurd hc (by omega)) (fun c1027 => ?_)
    refine Br.dec (fun hc => absurd hc (by omega)) (fun c1028 => ?_)
    refine Br.dec (fun c1029 => ?_) (fun hc => absurd (by omega) hc)
    refine Br.tt ?_
    refine Br.ff ?_
    refine StillVC.run (StillVC.loadON p80 0 rfl ty23 rfl rfl rfl ?_)
    refine StillVC.run (StillVC.loadON p80 1 rfl ty23 rfl rfl rfl ?_)
    refine CallVC.ret (test_spec k1 n1 t1 op k2 n2 t2 add _ (by omega) (by omega)) ?_
    rintro _ h1040 ⟨rfl, oc⟩
    have p1040 := oc.thenE (by assumption)
    clear oc
    rw [test_none (.inr (.inr (.inr (.inr (.inr (.inl hc))))))]
    refine Br.tt ?_
    refine StillVC.run (StillVC.loadON p1040 0 rfl ty23 rfl rfl rfl ?_)
    refine StillVC.run (StillVC.buildK st23 ?_)
    refine CallVC.ret (test_spec k1 n1 t1 op 0 0 [] add _ (by omega) (by decide)) ?_
    rintro _ h1080 ⟨rfl, oc⟩
    have p1080 := oc.thenE (by assumption)
    clear oc
    rw [test_null]
    refine Br.tt ?_
    refine StillVC.run (StillVC.buildK st23 ?_)
    refine StillVC.run (StillVC.loadON p1080 1 rfl ty23 rfl rfl rfl ?_)
    refine CallVC.ret (test_spec 0 0 [] op k2 n2 t2 add _ (by decide) (by omega)) ?_
    rintro _ h1120 ⟨rfl, oc⟩
    have p1120 := oc.thenE (by assumption)
    clear oc
    rw [test_null']
    refine RetVC.one rfl ?_
    exact ⟨rfl, Own.sel (by assumption) [] rfl⟩
  by_cases ha : add = 0
  case pos =>
    refine Br.ff ?_
    refine StillVC.run (StillVC.fieldAddr st23 rfl rfl rfl ?_)
    refine StillVC.run (StillVC.loadO p80 0 rfl ty3 rfl rfl ?_)
    refine StillVC.run (StillVC.fieldAddr st23 rfl rfl rfl ?_)
    refine StillVC.run (StillVC.loadO p80 1 rfl ty3 rfl rfl ?_)
    refine Br.ndec (fun hc => absurd (by first | omega | assumption | decide | exact rfl) hc) (fun c1164 => ?_)
    refine StillVC.run (StillVC.fieldAddr st23 rfl rfl rfl ?_)
    refine StillVC.run (StillVC.loadO p80 0 rfl ty3 rfl rfl ?_)
    refine Br.dec (fun hc => absurd hc (by omega)) (fun c1167 => ?_)
    refine Br.dec (fun hc => absurd hc (by omega)) (fun c1168 => ?_)
    refine Br.dec (fun hc => absurd hc (by omega)) (fun c1169 => ?_)
    refine Br.ndec (fun hc => absurd (by first | omega | assumption | decide | exact rfl) hc) (fun c1170 => ?_)
    refine Br.tt ?_
    refine Br.tt ?_
    refine StillVC.run (StillVC.loadON p80 0 rfl ty23 rfl rfl rfl ?_)
    refine StillVC.run (StillVC.buildK st23 ?_)
    refine CallVC.ret (test_spec k1 n1 t1 op 0 0 [] add _ (by omega) (by decide)) ?_
    rintro _ h1180 ⟨rfl, oc⟩
    have p1180 := oc.thenE (by assumption)
    clear oc
    rw [test_null]
    refine Br.tt ?_
    refine StillVC.run (StillVC.buildK st23 ?_)
    refine StillVC.run (StillVC.loadON p1180 1 rfl ty23 rfl rfl rfl ?_)
    refine CallVC.ret (test_spec 0 0 [] op k2 n2 t2 add _ (by decide) (by omega)) ?_
    rintro _ h1220 ⟨rfl, oc⟩
    have p1220 := oc.thenE (by assumption)
    clear oc
    rw [test_null']
    refine RetVC.one rfl ?_
    exact ⟨rfl, Own.sel (by assumption) [] rfl⟩
  by_cases h1k : k1 = 1
  case pos =>
    refine Br.ff ?_
    refine StillVC.run (StillVC.fieldAddr st23 rfl rfl rfl ?_)
    refine StillVC.run (StillVC.loadO p80 0 rfl ty3 rfl rfl ?_)
    refine StillVC.run (StillVC.fieldAddr st23 rfl rfl rfl ?_)
    refine StillVC.run (StillVC.loadO p80 1 rfl ty3 rfl rfl ?_)
    refine Br.ndec (fun hc => absurd (by first | omega | assumption | decide | exact rfl) hc) (fun c1264 => ?_)
    refine StillVC.run (StillVC.fieldAddr st23 rfl rfl rfl ?_)
    refine StillVC.run (StillVC.loadO p80 0 rfl ty3 rfl rfl ?_)
    refine Br.dec (fun hc => absurd hc (by omega)) (fun c1267 => ?_)
    refine Br.dec (fun hc => absurd hc (by omega)) (fun c1268 => ?_)
    refine Br.dec (fun hc => absurd hc (by omega)) (fun c1269 => ?_)
    refine Br.ndec (fun c1270 => ?_) (fun hc => absurd hc (by first | omega | assumption | decide | exact rfl))
    refine StillVC.run (StillVC.fieldAddr st23 rfl rfl rfl ?_)
    refine StillVC.run (StillVC.loadO p80 0 rfl ty3 rfl rfl ?_)
    refine Br.dec (fun c1273 => ?_) (fun hc => absurd (by omega) hc)
    refine Br.tt ?_
    refine Br.ff ?_
    refine StillVC.run (StillVC.loadON p80 0 rfl ty23 rfl rfl rfl ?_)
    refine StillVC.run (StillVC.loadON p80 1 rfl ty23 rfl rfl rfl ?_)
    refine CallVC.ret (test_spec k1 n1 t1 op k2 n2 t2 add _ (by omega) (by omega)) ?_
    rintro _ h1280 ⟨rfl, oc⟩
    have p1280 := oc.thenE (by assumption)
    clear oc
    rw [test_none (.inr (.inr (.inr (.inr (.inr (.inr ⟨ha, .inl h1k⟩))))))]
    refine Br.tt ?_
    refine StillVC.run (StillVC.loadON p1280 0 rfl ty23 rfl rfl rfl ?_)
    refine StillVC.run (StillVC.buildK st23 ?_)
    refine CallVC.ret (test_spec k1 n1 t1 op 0 0 [] add _ (by omega) (by decide)) ?_
    rintro _ h1320 ⟨rfl, oc⟩
    have p1320 := oc.thenE (by assumption)
    clear oc
    rw [test_null]
    refine Br.tt ?_
    refine StillVC.run (StillVC.buildK st23 ?_)
    refine StillVC.run (StillVC.loadON p1320 1 rfl ty23 rfl rfl rfl ?_)
    refine CallVC.ret (test_spec 0 0 [] op k2 n2 t2 add _ (by decide) (by omega)) ?_
    rintro _ h1360 ⟨rfl, oc⟩
    have p1360 := oc.thenE (by assumption)
    clear oc
    rw [test_null']
    refine RetVC.one rfl ?_
    exact ⟨rfl, Own.sel (by assumption) [] rfl⟩
  by_cases h4k : k1 = 4
  case pos =>
    refine Br.ff ?_
    refine StillVC.run (StillVC.fieldAddr st23 rfl rfl rfl ?_)
    refine StillVC.run (StillVC.loadO p80 0 rfl ty3 rfl rfl ?_)
    refine StillVC.run (StillVC.fieldAddr st23 rfl rfl rfl ?_)
    refine StillVC.run (StillVC.loadO p80 1 rfl ty3 rfl rfl ?_)
    refine Br.ndec (fun hc => absurd (by first | omega | assumption | decide | exact rfl) hc) (fun c1404 => ?_)
    refine StillVC.run (StillVC.fieldAddr st23 rfl rfl rfl ?_)
    refine StillVC.run (StillVC.loadO p80 0 rfl ty3 rfl rfl ?_)
    refine Br.dec (fun hc => absurd hc (by omega)) (fun c1407 => ?_)
    refine Br.dec (fun hc => absurd hc (by omega)) (fun c1408 => ?_)
    refine Br.dec (fun hc => absurd hc (by omega)) (fun c1409 => ?_)
    refine Br.ndec (fun c1410 => ?_) (fun hc => absurd hc (by first | omega | assumption | decide | exact rfl))
    refine StillVC.run (StillVC.fieldAddr st23 rfl rfl rfl ?_)
    refine StillVC.run (StillVC.loadO p80 0 rfl ty3 rfl rfl ?_)
    refine Br.dec (fun hc => absurd hc (by omega)) (fun c1413 => ?_)
    refine StillVC.run (StillVC.fieldAddr st23 rfl rfl rfl ?_)
    refine StillVC.run (StillVC.loadO p80 0 rfl ty3 rfl rfl ?_)
    refine Br.tt ?_
    refine Br.ndec (fun hc => absurd (by first | omega | assumption | decide | exact rfl) hc) (fun c1416 => ?_)
    refine StillVC.run (StillVC.loadON p80 0 rfl ty23 rfl rfl rfl ?_)
    refine StillVC.run (StillVC.loadON p80 1 rfl ty23 rfl rfl rfl ?_)
    refine CallVC.ret (test_spec k1 n1 t1 op k2 n2 t2 add _ (by omega) (by omega)) ?_
    rintro _ h1420 ⟨rfl, oc⟩
    have p1420 := oc.thenE (by assumption)
    clear oc
    rw [test_none (.inr (.inr (.inr (.inr (.inr (.inr ⟨ha, .inr h4k⟩))))))]
    refine Br.tt ?_
    refine StillVC.run (StillVC.loadON p1420 0 rfl ty23 rfl rfl rfl ?_)
    refine StillVC.run (StillVC.buildK st23 ?_)
    refine CallVC.ret (test_spec k1 n1 t1 op 0 0 [] add _ (by omega) (by decide)) ?_
    rintro _ h1460 ⟨rfl, oc⟩
    have p1460 := oc.thenE (by assumption)
    clear oc
    rw [test_null]
    refine Br.tt ?_
    refine StillVC.run (StillVC.buildK st23 ?_)
    refine StillVC.run (StillVC.loadON p1460 1 rfl ty23 rfl rfl rfl ?_)
    refine CallVC.ret (test_spec 0 0 [] op k2 n2 t2 add _ (by decide) (by omega)) ?_
    rintro _ h1500 ⟨rfl, oc⟩
    have p1500 := oc.thenE (by assumption)
    clear oc
    rw [test_null']
    refine RetVC.one rfl ?_
    exact ⟨rfl, Own.sel (by assumption) [] rfl⟩
  refine Br.ff ?_
  refine StillVC.run (StillVC.fieldAddr st23 rfl rfl rfl ?_)
  refine StillVC.run (StillVC.loadO p80 0 rfl ty3 rfl rfl ?_)
  refine StillVC.run (StillVC.fieldAddr st23 rfl rfl rfl ?_)
  refine StillVC.run (StillVC.loadO p80 1 rfl ty3 rfl rfl ?_)
  refine Br.ndec (fun hc => absurd (by first | omega | assumption | decide | exact rfl) hc) (fun c1544 => ?_)
  refine StillVC.run (StillVC.fieldAddr st23 rfl rfl rfl ?_)
  refine StillVC.run (StillVC.loadO p80 0 rfl ty3 rfl rfl ?_)
  refine Br.dec (fun hc => absurd hc (by omega)) (fun c1547 => ?_)
  refine Br.dec (fun hc => absurd hc (by omega)) (fun c1548 => ?_)
  refine Br.dec (fun hc => absurd hc (by omega)) (fun c1549 => ?_)
  refine Br.ndec (fun c1550 => ?_) (fun hc => absurd hc (by first | omega | assumption | decide | exact rfl))
  refine StillVC.run (StillVC.fieldAddr st23 rfl rfl rfl ?_)
  refine StillVC.run (StillVC.loadO p80 0 rfl ty3 rfl rfl ?_)
  refine Br.dec (fun hc => absurd hc (by omega)) (fun c1553 => ?_)
  refine StillVC.run (StillVC.fieldAddr st23 rfl rfl rfl ?_)
  refine StillVC.run (StillVC.loadO p80 0 rfl ty3 rfl rfl ?_)
  refine Br.tt ?_
  refine Br.ndec (fun c1556 => ?_) (fun hc => absurd hc (by first | omega | assumption | decide | exact rfl))
  refine StillVC.run (StillVC.loadON p80 0 rfl ty23 rfl rfl rfl ?_)
  refine StillVC.run (StillVC.buildK st23 ?_)
  refine CallVC.ret (test_spec k1 n1 t1 op 0 0 [] add _ (by omega) (by decide)) ?_
  rintro _ h1560 ⟨rfl, oc⟩
  have p1560 := oc.thenE (by assumption)
  clear oc
  rw [test_null]
  refine Br.tt ?_
  refine StillVC.run (StillVC.buildK st23 ?_)
  refine StillVC.run (StillVC.loadON p1560 1 rfl ty23 rfl rfl rfl ?_)
  refine CallVC.ret (test_spec 0 0 [] op k2 n2 t2 add _ (by decide) (by omega)) ?_
  rintro _ h1600 ⟨rfl, oc⟩
  have p1600 := oc.thenE (by assumption)
  clear oc
  rw [test_null']
  refine RetVC.one rfl ?_
  exact ⟨rfl, Own.sel (by assumption) [] rfl⟩

end Go.Proofs.YtffpaippmfafjaaGreatDoor
