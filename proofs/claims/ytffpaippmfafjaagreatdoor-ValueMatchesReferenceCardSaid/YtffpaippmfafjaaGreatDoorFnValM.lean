/-
  The statement ValueMatchesReference of chapter 2, walked.
-/
import Derived.Test.YtffpaippmfafjaaGreatDoorStructs
import Derived.Test.YtffpaippmfafjaaGreatDoorFnHeadV
namespace Go.Proofs.YtffpaippmfafjaaGreatDoor
open Go

set_option maxHeartbeats 8000000 in
set_option maxRecDepth 100000 in
theorem matches_spec (k1 n1 : Int) (t1 : List UInt8) (k2 n2 : Int) (t2 : List UInt8) (op add kind : Int) (s : List UInt8) (h : Heap) (hsl : s.length ≤ 140737488351232) (hT : TabH h) (hV : VarH h) :
    SpecR Tryz.prog 3 [valV k1 n1 t1, valV k2 n2 t2, .int .i64 op, .int .i64 add, .int .i64 kind, .string ⟨⟨s⟩⟩] h fun v h' => v = .bool true ∧ Own h [] h' := by
  show SpecR Tryz.prog 3 [.agg ⟨[.int .i64 k1, .int .i64 n1, .string ⟨⟨t1⟩⟩]⟩, .agg ⟨[.int .i64 k2, .int .i64 n2, .string ⟨⟨t2⟩⟩]⟩, .int .i64 op, .int .i64 add, .int .i64 kind, .string ⟨⟨s⟩⟩] h _
  refine Spec.enter Tryz.func3 rfl Tryz.ntmps3 (by kernel_rfl) ?_
  have o0 := Own.refl h
  (refine RunVC.boxO o0 rfl ?_; intro b10 m10 o10)
  (refine RunVC.boxO o10 rfl ?_; intro b11 m11 o11)
  refine CallVC.ret (head_spec _ (hT.ext (Own.ext (by assumption))) (hV.ext (Own.ext (by assumption)))) ?_
  rintro _ h1 ⟨rfl, oc⟩
  have p1 : Own h [box b10 [.int .i64 k1, .int .i64 n1, .string ⟨⟨t1⟩⟩] 23, box b11 [.int .i64 k2, .int .i64 n2, .string ⟨⟨t2⟩⟩] 23] h1 := oc.thenE (by assumption)
  clear oc
  refine StillVC.run (StillVC.loadON p1 0 rfl ty23 rfl rfl rfl ?_)
  refine StillVC.run (StillVC.loadON p1 1 rfl ty23 rfl rfl rfl ?_)
  (refine RunVC.litN p1 sl42 ty23 rfl rfl (by decide) ?_)
  refine And.intro rfl ?_
  refine And.intro rfl ?_
  intro b23 m23 o23
  refine CallVC.ret (short_spec [⟨k1, n1, t1⟩, ⟨k2, n2, t2⟩] _ _ (Own.boxArrN (by assumption) 2 rfl rfl (by decide)) (by simp)) ?_
  rintro _ h2 ⟨rfl, oc⟩
  have p2 := oc.thenE (by assumption)
  clear oc p1
  by_cases hsh : shortP [⟨k1, n1, t1⟩, ⟨k2, n2, t2⟩]
  case neg =>
    rw [decide_eq_false hsh]
    refine Br.tt ?_
    refine Br.tt ?_
    refine RetVC.one rfl ?_
    exact ⟨rfl, Own.sel (by assumption) [] rfl⟩
  rw [decide_eq_true hsh]
  have hs1 : t1.length ≤ 500 := hsh ⟨k1, n1, t1⟩ (by simp)
  have hs2 : t2.length ≤ 500 := hsh ⟨k2, n2, t2⟩ (by simp)
  by_cases hs : s.length ≤ 500
  case neg =>
    refine Br.ff ?_
    refine StillVC.run (StillVC.lenS rfl str9 ?_)
    refine Br.dec (fun c41 => ?_) (fun hc => absurd (by omega) hc)
    refine RetVC.one rfl ?_
    exact ⟨rfl, Own.sel (by assumption) [] rfl⟩
  refine Br.ff ?_
  refine StillVC.run (StillVC.lenS rfl str9 ?_)
  refine Br.dec (fun hc => absurd hc (by omega)) (fun c51 => ?_)
  refine CallVC.ret (parse_spec s _ (by omega) (hV.ext (Own.ext (by assumption))) (hT.ext (Own.ext (by assumption)))) ?_
  rintro _ h60 ⟨⟨kx, nx, tx, ex, rfl, hPx⟩, oc⟩
  have p60 := oc.thenE (by assumption)
  clear oc
  (refine RunVC.alloc p60 ty23 ?_; intro b70 m70 o70)
  (refine RunVC.storeL o70 3 rfl ty23 rfl (by decide) (And.intro ⟨rfl, rfl⟩ ?_); intro m71 o71)
  refine CallVC.ret (rparse_spec s _ (by omega)) ?_
  rintro _ h80 ⟨⟨ky, ny, ty, ey, rfl, hPy⟩, oc⟩
  have p80 := oc.thenE (by assumption)
  clear oc
  obtain ⟨rfl, rfl, rfl, rfl⟩ := hPx.det hPy
  (refine RunVC.alloc p80 ty23 ?_; intro b90 m90 o90)
  (refine RunVC.storeL o90 4 rfl ty23 rfl (by decide) (And.intro ⟨rfl, rfl⟩ ?_); intro m91 o91)
  refine StillVC.run (StillVC.loadON o91 0 rfl ty23 rfl rfl rfl ?_)
  refine CallVC.ret (cast_spec k1 n1 t1 kind _ (by omega) (hV.ext (Own.ext (by assumption))) (hT.ext (Own.ext (by assumption)))) ?_
  rintro _ h100 ⟨⟨ku, nu, tu, eu, rfl, hPu⟩, oc⟩
  have p100 := oc.thenE (by assumption)
  clear oc
  (refine RunVC.alloc p100 ty23 ?_; intro b110 m110 o110)
  (refine RunVC.storeL o110 5 rfl ty23 rfl (by decide) (And.intro ⟨rfl, rfl⟩ ?_); intro m111 o111)
  refine StillVC.run (StillVC.loadON o111 0 rfl ty23 rfl rfl rfl ?_)
  refine CallVC.ret (rcast_spec k1 n1 t1 kind _ (by omega)) ?_
  rintro _ h120 ⟨⟨kv, nv, tv, ev, rfl, hPv⟩, oc⟩
  have p120 := oc.thenE (by assumption)
  clear oc
  obtain ⟨rfl, rfl, rfl, rfl⟩ := hPu.det hPv
  (refine RunVC.alloc p120 ty23 ?_; intro b130 m130 o130)
  (refine RunVC.storeL o130 6 rfl ty23 rfl (by decide) (And.intro ⟨rfl, rfl⟩ ?_); intro m131 o131)
  refine StillVC.run (StillVC.loadON o131 3 rfl ty23 rfl rfl rfl ?_)
  refine StillVC.run (StillVC.loadON o131 4 rfl ty23 rfl rfl rfl ?_)
  refine StillVC.run (StillVC.neS pl23 rfl rfl rfl rfl ?_)
  refine Br.ffE (by first | omega | (simp; done)) ?_
  refine Br.ndec (fun hc => absurd (by first | omega | assumption | decide | exact rfl) hc) (fun c136 => ?_)
  refine StillVC.run (StillVC.loadON o131 5 rfl ty23 rfl rfl rfl ?_)
  refine StillVC.run (StillVC.loadON o131 6 rfl ty23 rfl rfl rfl ?_)
  refine StillVC.run (StillVC.neS pl23 rfl rfl rfl rfl ?_)
  refine Br.ffE (by first | omega | (simp; done)) ?_
  refine Br.ndec (fun hc => absurd (by first | omega | assumption | decide | exact rfl) hc) (fun c141 => ?_)
  refine DrawVC.intro [0, 1, 6, 7, 8, 15, 16, 17, 22, 23, 24, 26, 28, 31, 33, 35, 36, 37] [2, 4, 9, 10, 12, 13, 18, 20, 25, 27, 30, 32] [34] [0, 1, 2, 4, 3, 5, 6, 7, 8, 9, 10, 12, 13, 11, 14, 15, 16, 17, 18, 20, 19, 21, 22, 23, 24, 25, 26, 27, 28, 30, 31, 32, 33, 29, 34, 35, 36, 37] mixed (by kernel_rfl) rfl (fun _ _ _ _ h => h) ?_
  refine Br.tt ?_
  refine StillVC.loadON o131 0 rfl ty23 rfl rfl rfl ?_
  refine StillVC.loadON o131 0 rfl ty23 rfl rfl rfl ?_
  refine CallVC.ret (valid_spec k1 n1 t1 _ (by omega)) ?_
  rintro _ h140 ⟨rfl, oc140⟩
  have p140 := oc140.thenE (by assumption)
  refine And.intro oc140.ext ?_
  refine CallVC.ret (rvalid_spec k1 n1 t1 _ (by omega)) ?_
  rintro _ h160 ⟨rfl, oc160⟩
  have p160 := oc160.thenE (by assumption)
  refine And.intro oc160.ext ?_
  refine StillVC.eqB bool4 rfl rfl ?_
  refine Br.dec (fun c171 => ?_) (fun hc => absurd (by first | assumption | decide | exact rfl | (simp; done)) hc)
  refine StillVC.loadON p160 0 rfl ty23 rfl rfl rfl ?_
  refine StillVC.loadON p160 1 rfl ty23 rfl rfl rfl ?_
  refine StillVC.loadON p160 0 rfl ty23 rfl rfl rfl ?_
  refine StillVC.loadON p160 1 rfl ty23 rfl rfl rfl ?_
  refine CallVC.ret (compare_spec k1 n1 t1 k2 n2 t2 _) ?_
  rintro _ h180 ⟨rfl, oc180⟩
  have p180 := oc180.thenE (by assumption)
  refine And.intro oc180.ext ?_
  refine CallVC.ret (rcompare_spec k1 n1 t1 k2 n2 t2 _) ?_
  rintro _ h200 ⟨rfl, oc200⟩
  have p200 := oc200.thenE (by assumption)
  refine And.intro oc200.ext ?_
  refine Br.dec (fun c210 => ?_) (fun hc => absurd (by omega) hc)
  refine StillVC.loadON p200 0 rfl ty23 rfl rfl rfl ?_
  refine StillVC.loadON p200 0 rfl ty23 rfl rfl rfl ?_
  refine CallVC.ret (text_spec k1 n1 t1 _ (by omega) (hT.ext (Own.ext (by assumption)))) ?_
  rintro _ h220 ⟨rfl, oc220⟩
  have p220 := oc220.thenE (by assumption)
  refine And.intro oc220.ext ?_
  refine CallVC.ret (rtext_spec k1 n1 t1 _ (by omega)) ?_
  rintro _ h240 ⟨rfl, oc240⟩
  have p240 := oc240.thenE (by assumption)
  refine And.intro oc240.ext ?_
  refine Br.dec (fun c250 => ?_) (fun hc => absurd (by first | assumption | decide | exact rfl | (simp; done)) hc)
  refine StillVC.loadON p240 0 rfl ty23 rfl rfl rfl ?_
  refine StillVC.loadON p240 1 rfl ty23 rfl rfl rfl ?_
  refine StillVC.loadON p240 0 rfl ty23 rfl rfl rfl ?_
  refine StillVC.loadON p240 1 rfl ty23 rfl rfl rfl ?_
  refine CallVC.ret (test_spec k1 n1 t1 op k2 n2 t2 add _ (by omega) (by omega)) ?_
  rintro _ h260 ⟨rfl, oc260⟩
  have p260 := oc260.thenE (by assumption)
  refine And.intro oc260.ext ?_
  refine CallVC.ret (rtest_spec k1 n1 t1 op k2 n2 t2 add _ (by omega) (by omega)) ?_
  rintro _ h280 ⟨rfl, oc280⟩
  have p280 := oc280.thenE (by assumption)
  refine StillVC.eqB bool4 rfl rfl ?_
  refine RetVC.one rfl ?_
  exact ⟨by simp, Own.sel (by assumption) [] rfl⟩

end Go.Proofs.YtffpaippmfafjaaGreatDoor
