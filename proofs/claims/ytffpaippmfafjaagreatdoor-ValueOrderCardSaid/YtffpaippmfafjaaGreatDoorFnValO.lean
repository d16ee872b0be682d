/-
  The statement ValueOrder of chapter 2, walked.
-/
import Derived.Test.YtffpaippmfafjaaGreatDoorStructs
import Derived.Test.YtffpaippmfafjaaGreatDoorFnHeadV
namespace Go.Proofs.YtffpaippmfafjaaGreatDoor
open Go

set_option maxHeartbeats 8000000 in
set_option maxRecDepth 100000 in
theorem order_spec (k1 n1 : Int) (t1 : List UInt8) (k2 n2 : Int) (t2 : List UInt8) (k3 n3 : Int) (t3 : List UInt8) (h : Heap) (hT : TabH h) (hV : VarH h) :
    SpecR Tryz.prog 4 [valV k1 n1 t1, valV k2 n2 t2, valV k3 n3 t3] h fun v h' => v = .bool true ∧ Own h [] h' := by
  show SpecR Tryz.prog 4 [.agg ⟨[.int .i64 k1, .int .i64 n1, .string ⟨⟨t1⟩⟩]⟩, .agg ⟨[.int .i64 k2, .int .i64 n2, .string ⟨⟨t2⟩⟩]⟩, .agg ⟨[.int .i64 k3, .int .i64 n3, .string ⟨⟨t3⟩⟩]⟩] h _
  refine Spec.enter Tryz.func4 rfl Tryz.ntmps4 (by kernel_rfl) ?_
  have o0 := Own.refl h
  (refine RunVC.boxO o0 rfl ?_; intro b10 m10 o10)
  (refine RunVC.boxO o10 rfl ?_; intro b11 m11 o11)
  (refine RunVC.boxO o11 rfl ?_; intro b12 m12 o12)
  refine CallVC.ret (head_spec _ (hT.ext (Own.ext (by assumption))) (hV.ext (Own.ext (by assumption)))) ?_
  rintro _ h1 ⟨rfl, oc⟩
  have p1 : Own h [box b10 [.int .i64 k1, .int .i64 n1, .string ⟨⟨t1⟩⟩] 23, box b11 [.int .i64 k2, .int .i64 n2, .string ⟨⟨t2⟩⟩] 23, box b12 [.int .i64 k3, .int .i64 n3, .string ⟨⟨t3⟩⟩] 23] h1 := oc.thenE (by assumption)
  clear oc
  refine StillVC.run (StillVC.loadON p1 0 rfl ty23 rfl rfl rfl ?_)
  refine StillVC.run (StillVC.loadON p1 1 rfl ty23 rfl rfl rfl ?_)
  refine StillVC.run (StillVC.loadON p1 2 rfl ty23 rfl rfl rfl ?_)
  (refine RunVC.litN p1 sl42 ty23 rfl rfl (by decide) ?_)
  refine And.intro rfl ?_
  refine And.intro rfl ?_
  refine And.intro rfl ?_
  intro b24 m24 o24
  refine CallVC.ret (short_spec [⟨k1, n1, t1⟩, ⟨k2, n2, t2⟩, ⟨k3, n3, t3⟩] _ _ (Own.boxArrN (by assumption) 3 rfl rfl (by decide)) (by simp)) ?_
  rintro _ h2 ⟨rfl, oc⟩
  have p2 := oc.thenE (by assumption)
  clear oc p1
  by_cases hsh : shortP [⟨k1, n1, t1⟩, ⟨k2, n2, t2⟩, ⟨k3, n3, t3⟩]
  case neg =>
    rw [decide_eq_false hsh]
    refine Br.tt ?_
    refine RetVC.one rfl ?_
    exact ⟨rfl, Own.sel (by assumption) [] rfl⟩
  rw [decide_eq_true hsh]
  have hs1 : t1.length ≤ 500 := hsh ⟨k1, n1, t1⟩ (by simp)
  have hs2 : t2.length ≤ 500 := hsh ⟨k2, n2, t2⟩ (by simp)
  have hs3 : t3.length ≤ 500 := hsh ⟨k3, n3, t3⟩ (by simp)
  refine Br.ff ?_
  refine StillVC.run (StillVC.loadON p2 0 rfl ty23 rfl rfl rfl ?_)
  refine StillVC.run (StillVC.loadON p2 1 rfl ty23 rfl rfl rfl ?_)
  refine CallVC.ret (compare_spec k1 n1 t1 k2 n2 t2 _) ?_
  rintro _ h50 ⟨rfl, oc⟩
  have p50 := oc.thenE (by assumption)
  clear oc
  have r1 := cmpV_rng k1 n1 t1 k2 n2 t2
  have z1 := cmpV_zero k1 n1 t1 k2 n2 t2
  have g1 := cmpV_neg k1 n1 t1 k2 n2 t2
  have tr := cmpV_trans k1 n1 t1 k2 n2 t2 k3 n3 t3
  have hz : decide (cmpV k1 n1 t1 k2 n2 t2 = 0) = (decide (k1 = k2) && (decide (n1 = n2) && (decide (t1 = t2) && true))) := by rw [Bool.eq_iff_iff]; simp [z1]
  generalize hc12 : cmpV k1 n1 t1 k2 n2 t2 = c12 at *
  refine Br.dec (fun hc => absurd hc (by omega)) (fun c60 => ?_)
  refine Br.dec (fun hc => absurd hc (by omega)) (fun c61 => ?_)
  refine StillVC.run (StillVC.loadON p50 0 rfl ty23 rfl rfl rfl ?_)
  refine StillVC.run (StillVC.loadON p50 1 rfl ty23 rfl rfl rfl ?_)
  refine StillVC.run (StillVC.eqS pl23 rfl rfl rfl rfl ?_)
  refine StillVC.run (StillVC.neB bool4 rfl rfl ?_)
  refine Br.ndec (fun hc => absurd (by first | omega | assumption | decide | exact rfl) hc) (fun c66 => ?_)
  refine StillVC.run (StillVC.loadON p50 1 rfl ty23 rfl rfl rfl ?_)
  refine StillVC.run (StillVC.loadON p50 0 rfl ty23 rfl rfl rfl ?_)
  refine CallVC.ret (compare_spec k2 n2 t2 k1 n1 t1 _) ?_
  rintro _ h80 ⟨rfl, oc⟩
  have p80 := oc.thenE (by assumption)
  clear oc
  rw [g1]
  by_cases hp : 0 < c12
  · refine Ar.i64 (by omega) (by omega) ?_
    refine Br.ndec (fun hc => absurd (by first | omega | assumption | decide | exact rfl) hc) (fun c100 => ?_)
    refine Br.tt ?_
    refine Br.dec (fun c101 => ?_) (fun hc => absurd (by omega) hc)
    refine RetVC.one rfl ?_
    exact ⟨rfl, Own.sel (by assumption) [] rfl⟩
  refine Ar.i64 (by omega) (by omega) ?_
  refine Br.ndec (fun hc => absurd (by first | omega | assumption | decide | exact rfl) hc) (fun c120 => ?_)
  refine Br.tt ?_
  refine Br.dec (fun hc => absurd hc (by omega)) (fun c121 => ?_)
  refine StillVC.run (StillVC.loadON p80 1 rfl ty23 rfl rfl rfl ?_)
  refine StillVC.run (StillVC.loadON p80 2 rfl ty23 rfl rfl rfl ?_)
  refine CallVC.ret (compare_spec k2 n2 t2 k3 n3 t3 _) ?_
  rintro _ h140 ⟨rfl, oc⟩
  have p140 := oc.thenE (by assumption)
  clear oc
  by_cases hp2 : 0 < cmpV k2 n2 t2 k3 n3 t3
  · refine Br.dec (fun c150 => ?_) (fun hc => absurd (by omega) hc)
    refine RetVC.one rfl ?_
    exact ⟨rfl, Own.sel (by assumption) [] rfl⟩
  refine Br.dec (fun hc => absurd hc (by omega)) (fun c160 => ?_)
  refine StillVC.run (StillVC.loadON p140 0 rfl ty23 rfl rfl rfl ?_)
  refine StillVC.run (StillVC.loadON p140 2 rfl ty23 rfl rfl rfl ?_)
  refine CallVC.ret (compare_spec k1 n1 t1 k3 n3 t3 _) ?_
  rintro _ h170 ⟨rfl, oc⟩
  have p170 := oc.thenE (by assumption)
  clear oc
  have tr := tr (by omega) (by omega)
  refine RetVC.one rfl ?_
  exact ⟨by rw [decide_eq_true tr], Own.sel (by assumption) [] rfl⟩

end Go.Proofs.YtffpaippmfafjaaGreatDoor
