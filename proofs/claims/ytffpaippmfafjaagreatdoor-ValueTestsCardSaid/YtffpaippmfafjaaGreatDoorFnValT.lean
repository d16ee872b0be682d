/-
  The statement ValueTests of chapter 2, walked.
-/
import Derived.Test.YtffpaippmfafjaaGreatDoorStructs
import Derived.Test.YtffpaippmfafjaaGreatDoorFnHeadV
namespace Go.Proofs.YtffpaippmfafjaaGreatDoor
open Go

set_option maxHeartbeats 8000000 in
set_option maxRecDepth 100000 in
theorem tests_spec (k1 n1 : Int) (t1 : List UInt8) (k2 n2 : Int) (t2 : List UInt8) (h : Heap) (hT : TabH h) (hV : VarH h) :
    SpecR Tryz.prog 7 [valV k1 n1 t1, valV k2 n2 t2] h fun v h' => v = .bool true ∧ Own h [] h' := by
  show SpecR Tryz.prog 7 [.agg ⟨[.int .i64 k1, .int .i64 n1, .string ⟨⟨t1⟩⟩]⟩, .agg ⟨[.int .i64 k2, .int .i64 n2, .string ⟨⟨t2⟩⟩]⟩] h _
  refine Spec.enter Tryz.func7 rfl Tryz.ntmps7 (by kernel_rfl) ?_
  have o0 := Own.refl h
  (refine RunVC.boxO o0 rfl ?_; intro b10 m10 o10)
  (refine RunVC.boxO o10 rfl ?_; intro b11 m11 o11)
  refine CallVC.ret (head_spec _ (hT.ext (Own.ext (by assumption))) (hV.ext (Own.ext (by assumption)))) ?_
  rintro _ h1 ⟨rfl, oc⟩
  have p1 : Own h [box b10 [.int .i64 k1, .int .i64 n1, .string ⟨⟨t1⟩⟩] 23, box b11 [.int .i64 k2, .int .i64 n2, .string ⟨⟨t2⟩⟩] 23] h1 := oc.thenE (by assumption)
  clear oc
  refine StillVC.run (StillVC.loadON p1 0 rfl ty23 rfl rfl rfl ?_)
  refine StillVC.run (StillVC.loadON p1 1 rfl ty23 rfl rfl rfl ?_)
  (refine RunVC.litN p1 sl42 ty23 rfl rfl (by decide) ?_)
  refine And.intro rfl ?_
  refine And.intro rfl ?_
  intro b23 m23 o23
  refine CallVC.ret (short_spec [⟨k1, n1, t1⟩, ⟨k2, n2, t2⟩] _ _ (Own.boxArrN (by assumption) 2 rfl rfl (by decide)) (by simp)) ?_
  rintro _ h2 ⟨rfl, oc⟩
  have p2 := oc.thenE (by assumption)
  clear oc p1
  by_cases hsh : shortP [⟨k1, n1, t1⟩, ⟨k2, n2, t2⟩]
  case neg =>
    rw [decide_eq_false hsh]
    refine Br.tt ?_
    refine Br.tt ?_
    refine RetVC.one rfl ?_
    exact ⟨rfl, Own.sel (by assumption) [] rfl⟩
  rw [decide_eq_true hsh]
  have hs1 : t1.length ≤ 500 := hsh ⟨k1, n1, t1⟩ (by simp)
  have hs2 : t2.length ≤ 500 := hsh ⟨k2, n2, t2⟩ (by simp)
  refine Br.ff ?_
  refine StillVC.run (StillVC.loadON p2 0 rfl ty23 rfl rfl rfl ?_)
  refine CallVC.ret (valid_spec k1 n1 t1 _ (by omega)) ?_
  rintro _ h50 ⟨rfl, oc⟩
  have p50 := oc.thenE (by assumption)
  clear oc
  by_cases hv1 : validP k1 n1 t1
  case neg =>
    rw [decide_eq_false hv1]
    refine Br.tt ?_
    refine Br.tt ?_
    refine RetVC.one rfl ?_
    exact ⟨rfl, Own.sel (by assumption) [] rfl⟩
  rw [decide_eq_true hv1]
  refine Br.ff ?_
  refine StillVC.run (StillVC.loadON p50 1 rfl ty23 rfl rfl rfl ?_)
  refine CallVC.ret (valid_spec k2 n2 t2 _ (by omega)) ?_
  rintro _ h80 ⟨rfl, oc⟩
  have p80 := oc.thenE (by assumption)
  clear oc
  by_cases hv2 : validP k2 n2 t2
  case neg =>
    rw [decide_eq_false hv2]
    refine Br.tt ?_
    refine Br.tt ?_
    refine RetVC.one rfl ?_
    exact ⟨rfl, Own.sel (by assumption) [] rfl⟩
  rw [decide_eq_true hv2]
  by_cases hk : k1 = k2
  case neg =>
    refine Br.ff ?_
    refine StillVC.run (StillVC.fieldAddr st23 rfl rfl rfl ?_)
    refine StillVC.run (StillVC.loadO p80 0 rfl ty3 rfl rfl ?_)
    refine StillVC.run (StillVC.fieldAddr st23 rfl rfl rfl ?_)
    refine StillVC.run (StillVC.loadO p80 1 rfl ty3 rfl rfl ?_)
    refine Br.ndec (fun c104 => ?_) (fun hc => absurd hc (by first | omega | assumption | decide | exact rfl))
    refine Br.tt ?_
    refine RetVC.one rfl ?_
    exact ⟨rfl, Own.sel (by assumption) [] rfl⟩
  subst hk
  by_cases hk0 : k1 = 0
  case pos =>
    subst hk0
    refine Br.ff ?_
    refine StillVC.run (StillVC.fieldAddr st23 rfl rfl rfl ?_)
    refine StillVC.run (StillVC.loadO p80 0 rfl ty3 rfl rfl ?_)
    refine StillVC.run (StillVC.fieldAddr st23 rfl rfl rfl ?_)
    refine StillVC.run (StillVC.loadO p80 1 rfl ty3 rfl rfl ?_)
    refine Br.ff ?_
    refine StillVC.run (StillVC.fieldAddr st23 rfl rfl rfl ?_)
    refine StillVC.run (StillVC.loadO p80 0 rfl ty3 rfl rfl ?_)
    refine Br.tt ?_
    refine RetVC.one rfl ?_
    exact ⟨rfl, Own.sel (by assumption) [] rfl⟩
  refine Br.ff ?_
  refine StillVC.run (StillVC.fieldAddr st23 rfl rfl rfl ?_)
  refine StillVC.run (StillVC.loadO p80 0 rfl ty3 rfl rfl ?_)
  refine StillVC.run (StillVC.fieldAddr st23 rfl rfl rfl ?_)
  refine StillVC.run (StillVC.loadO p80 1 rfl ty3 rfl rfl ?_)
  refine Br.ndec (fun hc => absurd (by first | omega | assumption | decide | exact rfl) hc) (fun c124 => ?_)
  refine StillVC.run (StillVC.fieldAddr st23 rfl rfl rfl ?_)
  refine StillVC.run (StillVC.loadO p80 0 rfl ty3 rfl rfl ?_)
  refine Br.dec (fun hc => absurd hc (by omega)) (fun c127 => ?_)
  refine StillVC.run (StillVC.loadON p80 0 rfl ty23 rfl rfl rfl ?_)
  refine StillVC.run (StillVC.loadON p80 1 rfl ty23 rfl rfl rfl ?_)
  refine CallVC.ret (compare_spec k1 n1 t1 k1 n2 t2 _) ?_
  rintro _ h140 ⟨rfl, oc⟩
  have p140 := oc.thenE (by assumption)
  clear oc
  have r1 := cmpV_rng k1 n1 t1 k1 n2 t2
  have q1 := (test_cmp 3 hv1 hv2 hk0).trans (op_less _)
  have q2 := (test_cmp 1 hv1 hv2 hk0).trans (op_equal _)
  have q3 := (test_cmp 2 hv1 hv2 hk0).trans (op_unlike _)
  have q4 := (test_cmp 4 hv1 hv2 hk0).trans (op_most _)
  generalize cmpV k1 n1 t1 k1 n2 t2 = c at *
  refine StillVC.run (StillVC.loadON p140 0 rfl ty23 rfl rfl rfl ?_)
  refine StillVC.run (StillVC.loadON p140 1 rfl ty23 rfl rfl rfl ?_)
  refine CallVC.ret (test_spec k1 n1 t1 3 k1 n2 t2 0 _ (by omega) (by omega)) ?_
  rintro _ h160 ⟨rfl, oc⟩
  have p160 := oc.thenE (by assumption)
  clear oc
  rw [q1]
  refine StillVC.run (StillVC.eqB bool4 rfl rfl ?_)
  refine Br.dec (fun c171 => ?_) (fun hc => absurd (by first | assumption | decide | exact rfl | (simp; done)) hc)
  refine StillVC.run (StillVC.loadON p160 0 rfl ty23 rfl rfl rfl ?_)
  refine StillVC.run (StillVC.loadON p160 1 rfl ty23 rfl rfl rfl ?_)
  refine CallVC.ret (test_spec k1 n1 t1 1 k1 n2 t2 0 _ (by omega) (by omega)) ?_
  rintro _ h180 ⟨rfl, oc⟩
  have p180 := oc.thenE (by assumption)
  clear oc
  rw [q2]
  refine StillVC.run (StillVC.eqB bool4 rfl rfl ?_)
  refine Br.tt ?_
  refine Br.dec (fun c191 => ?_) (fun hc => absurd (by first | assumption | decide | exact rfl | (simp; done)) hc)
  refine StillVC.run (StillVC.loadON p180 0 rfl ty23 rfl rfl rfl ?_)
  refine StillVC.run (StillVC.loadON p180 1 rfl ty23 rfl rfl rfl ?_)
  refine CallVC.ret (test_spec k1 n1 t1 2 k1 n2 t2 0 _ (by omega) (by omega)) ?_
  rintro _ h200 ⟨rfl, oc⟩
  have p200 := oc.thenE (by assumption)
  clear oc
  rw [q3]
  refine StillVC.run (StillVC.eqB bool4 rfl rfl ?_)
  refine Br.dec (fun c211 => ?_) (fun hc => absurd (by first | assumption | decide | exact rfl | (simp; done)) hc)
  refine StillVC.run (StillVC.loadON p200 0 rfl ty23 rfl rfl rfl ?_)
  refine StillVC.run (StillVC.loadON p200 1 rfl ty23 rfl rfl rfl ?_)
  refine CallVC.ret (test_spec k1 n1 t1 4 k1 n2 t2 0 _ (by omega) (by omega)) ?_
  rintro _ h220 ⟨rfl, oc⟩
  have p220 := oc.thenE (by assumption)
  clear oc
  rw [q4]
  refine StillVC.run (StillVC.eqB bool4 rfl rfl ?_)
  refine RetVC.one rfl ?_
  exact ⟨by simp, Own.sel (by assumption) [] rfl⟩

end Go.Proofs.YtffpaippmfafjaaGreatDoor
