/-
  The fixed examples of chapter 2.
-/
import Derived.Test.YtffpaippmfafjaaGreatDoorStructs
import Derived.Test.YtffpaippmfafjaaGreatDoorFnValL
import Derived.Test.YtffpaippmfafjaaGreatDoorFnRefD
namespace Go.Proofs.YtffpaippmfafjaaGreatDoor
open Go

set_option maxRecDepth 100000 in
theorem mkText_spec (t : List UInt8) (h : Heap) : SpecR Tryz.prog 28 [.string ⟨⟨t⟩⟩] h fun r h' => r = valV 1 0 t ∧ Own h [] h' := by
  refine Spec.enter Tryz.func28 rfl Tryz.ntmps28 (by kernel_rfl) ?_
  have o0 := Own.refl h
  (refine RunVC.alloc o0 ty23 ?_; intro b10 m10 o10)
  refine StillVC.run (StillVC.buildK st23 ?_)
  refine And.intro rfl ?_
  refine And.intro rfl ?_
  (refine RunVC.storeL o10 0 rfl ty23 rfl (by decide) (And.intro ⟨rfl, rfl⟩ ?_); intro m12 o12)
  first | refine RetVC.cell2 rfl o12 0 rfl ty23 rfl rfl ?_ | refine RetVC.cell1 rfl o12 0 rfl ty23 rfl rfl ?_ | refine RetVC.cellTT rfl o12 0 rfl ty23 rfl rfl ?_
  exact ⟨rfl, Own.sel (by assumption) [] rfl⟩

set_option maxRecDepth 100000 in
theorem mkNumber_spec (n : Int) (h : Heap) : SpecR Tryz.prog 25 [.int .i64 n] h fun r h' => r = valV 2 n [] ∧ Own h [] h' := by
  refine Spec.enter Tryz.func25 rfl Tryz.ntmps25 (by kernel_rfl) ?_
  have o0 := Own.refl h
  (refine RunVC.alloc o0 ty23 ?_; intro b10 m10 o10)
  refine StillVC.run (StillVC.buildK st23 ?_)
  refine And.intro rfl ?_
  refine And.intro rfl ?_
  (refine RunVC.storeL o10 0 rfl ty23 rfl (by decide) (And.intro ⟨rfl, rfl⟩ ?_); intro m12 o12)
  first | refine RetVC.cell2 rfl o12 0 rfl ty23 rfl rfl ?_ | refine RetVC.cell1 rfl o12 0 rfl ty23 rfl rfl ?_ | refine RetVC.cellTT rfl o12 0 rfl ty23 rfl rfl ?_
  exact ⟨rfl, Own.sel (by assumption) [] rfl⟩

set_option maxRecDepth 100000 in
theorem mkDay_spec (n : Int) (h : Heap) : SpecR Tryz.prog 29 [.int .i64 n] h fun r h' => r = valV 3 n [] ∧ Own h [] h' := by
  refine Spec.enter Tryz.func29 rfl Tryz.ntmps29 (by kernel_rfl) ?_
  have o0 := Own.refl h
  (refine RunVC.alloc o0 ty23 ?_; intro b10 m10 o10)
  refine StillVC.run (StillVC.buildK st23 ?_)
  refine And.intro rfl ?_
  refine And.intro rfl ?_
  (refine RunVC.storeL o10 0 rfl ty23 rfl (by decide) (And.intro ⟨rfl, rfl⟩ ?_); intro m12 o12)
  first | refine RetVC.cell2 rfl o12 0 rfl ty23 rfl rfl ?_ | refine RetVC.cell1 rfl o12 0 rfl ty23 rfl rfl ?_ | refine RetVC.cellTT rfl o12 0 rfl ty23 rfl rfl ?_
  exact ⟨rfl, Own.sel (by assumption) [] rfl⟩

set_option maxHeartbeats 4000000 in
set_option maxRecDepth 100000 in
theorem head_spec (h : Heap) (hT : TabH h) (hV : VarH h) : SpecR Tryz.prog 11 [] h fun r h' => r = .bool true ∧ Own h [] h' := by
  refine Spec.enter Tryz.func11 rfl Tryz.ntmps11 (by kernel_rfl) ?_
  have o0 := Own.refl h
  refine CallVC.ret (parse_spec [64, 49, 50] _ (by decide) (hV.ext (Own.ext (by assumption))) (hT.ext (Own.ext (by assumption)))) ?_
  rintro _ h1 ⟨⟨k, n, t, e, rfl, hP⟩, oc⟩
  obtain ⟨rfl, rfl, rfl, rfl⟩ := hP.det ex_day
  have p1 := oc.thenE (by assumption)
  clear oc
  (refine RunVC.alloc p1 ty23 ?_; intro b30 m30 o30)
  (refine RunVC.storeL o30 0 rfl ty23 rfl (by decide) (And.intro ⟨rfl, rfl⟩ ?_); intro m31 o31)
  refine CallVC.ret (parse_spec [48, 48, 55] _ (by decide) (hV.ext (Own.ext (by assumption))) (hT.ext (Own.ext (by assumption)))) ?_
  rintro _ h2 ⟨⟨k, n, t, e, rfl, hP⟩, oc⟩
  obtain ⟨rfl, rfl, rfl, rfl⟩ := hP.det ex_007
  have p2 := oc.thenE (by assumption)
  clear oc
  (refine RunVC.alloc p2 ty23 ?_; intro b50 m50 o50)
  (refine RunVC.storeL o50 1 rfl ty23 rfl (by decide) (And.intro ⟨rfl, rfl⟩ ?_); intro m51 o51)
  refine CallVC.ret (mkText_spec [49, 50] _) ?_
  rintro _ h3 ⟨rfl, oc⟩
  have p3 := oc.thenE (by assumption)
  clear oc
  refine CallVC.ret (cast_spec 1 0 [49, 50] 2 _ (by decide) (hV.ext (Own.ext (by assumption))) (hT.ext (Own.ext (by assumption)))) ?_
  rintro _ h4 ⟨⟨k, n, t, e, rfl, hP⟩, oc⟩
  obtain ⟨rfl, rfl, rfl, rfl⟩ := hP.det ex_c1
  have p4 := oc.thenE (by assumption)
  clear oc
  (refine RunVC.alloc p4 ty23 ?_; intro b90 m90 o90)
  (refine RunVC.storeL o90 2 rfl ty23 rfl (by decide) (And.intro ⟨rfl, rfl⟩ ?_); intro m91 o91)
  refine CallVC.ret (mkText_spec [64, 49, 50] _) ?_
  rintro _ h5 ⟨rfl, oc⟩
  have p5 := oc.thenE (by assumption)
  clear oc
  refine CallVC.ret (cast_spec 1 0 [64, 49, 50] 2 _ (by decide) (hV.ext (Own.ext (by assumption))) (hT.ext (Own.ext (by assumption)))) ?_
  rintro _ h6 ⟨⟨k, n, t, e, rfl, hP⟩, oc⟩
  obtain ⟨rfl, rfl, rfl, rfl⟩ := hP.det ex_c2
  have p6 := oc.thenE (by assumption)
  clear oc
  (refine RunVC.alloc p6 ty23 ?_; intro b130 m130 o130)
  (refine RunVC.storeL o130 3 rfl ty23 rfl (by decide) (And.intro ⟨rfl, rfl⟩ ?_); intro m131 o131)
  refine CallVC.ret (mkNumber_spec (-1) _) ?_
  rintro _ h7 ⟨rfl, oc⟩
  have p7 := oc.thenE (by assumption)
  clear oc
  refine CallVC.ret (cast_spec 2 (-1) [] 3 _ (by decide) (hV.ext (Own.ext (by assumption))) (hT.ext (Own.ext (by assumption)))) ?_
  rintro _ h8 ⟨⟨k, n, t, e, rfl, hP⟩, oc⟩
  obtain ⟨rfl, rfl, rfl, rfl⟩ := hP.det ex_c3
  have p8 := oc.thenE (by assumption)
  clear oc
  (refine RunVC.alloc p8 ty23 ?_; intro b170 m170 o170)
  (refine RunVC.storeL o170 4 rfl ty23 rfl (by decide) (And.intro ⟨rfl, rfl⟩ ?_); intro m171 o171)
  refine CallVC.ret (mkNumber_spec 12 _) ?_
  rintro _ h9 ⟨rfl, oc⟩
  have p9 := oc.thenE (by assumption)
  clear oc
  refine CallVC.ret (cast_spec 2 12 [] 4 _ (by decide) (hV.ext (Own.ext (by assumption))) (hT.ext (Own.ext (by assumption)))) ?_
  rintro _ h10 ⟨⟨k, n, t, e, rfl, hP⟩, oc⟩
  obtain ⟨rfl, rfl, rfl, rfl⟩ := hP.det ex_c4
  have p10 := oc.thenE (by assumption)
  clear oc
  (refine RunVC.alloc p10 ty23 ?_; intro b210 m210 o210)
  (refine RunVC.storeL o210 5 rfl ty23 rfl (by decide) (And.intro ⟨rfl, rfl⟩ ?_); intro m211 o211)
  refine CallVC.ret (mkNumber_spec 12 _) ?_
  rintro _ h11 ⟨rfl, oc⟩
  have p11 := oc.thenE (by assumption)
  clear oc
  refine CallVC.ret (cast_spec 2 12 [] 0 _ (by decide) (hV.ext (Own.ext (by assumption))) (hT.ext (Own.ext (by assumption)))) ?_
  rintro _ h12 ⟨⟨k, n, t, e, rfl, hP⟩, oc⟩
  obtain ⟨rfl, rfl, rfl, rfl⟩ := hP.det ex_c5
  have p12 := oc.thenE (by assumption)
  clear oc
  (refine RunVC.alloc p12 ty23 ?_; intro b250 m250 o250)
  (refine RunVC.storeL o250 6 rfl ty23 rfl (by decide) (And.intro ⟨rfl, rfl⟩ ?_); intro m251 o251)
  refine DrawVC.intro [2, 3, 4, 5, 6, 7, 10, 11, 12, 13, 14, 15, 16, 17, 18, 19, 20, 23, 24, 25, 26, 27, 28, 29, 30, 31, 32, 33, 34, 35, 36, 37, 38, 39, 40, 41] [8, 21] [] [0, 1, 2, 3, 4, 5, 6, 7, 8, 9, 10, 11, 12, 13, 14, 15, 16, 17, 18, 19, 20, 21, 22, 23, 24, 25, 26, 27, 28, 29, 30, 31, 32, 33, 34, 35, 36, 37, 38, 39, 40, 41] mixed (by kernel_rfl) rfl (fun _ _ _ _ h => h) ?_
  refine CallVC.ret (mkText_spec [97, 34, 98] _) ?_
  rintro _ h13 ⟨rfl, oc⟩
  have p13 := oc.thenE (by assumption)
  refine And.intro oc.ext ?_
  refine CallVC.ret (text_spec 1 0 [97, 34, 98] _ (by decide) (hT.ext (Own.ext (by assumption)))) ?_
  rintro _ h14 ⟨rfl, oc⟩
  rw [ex_t]
  have p14 := oc.thenE (by assumption)
  refine And.intro oc.ext ?_
  refine Br.tt ?_
  refine Br.tt ?_
  refine StillVC.loadON p14 0 rfl ty23 rfl rfl rfl ?_
  refine CallVC.ret (mkDay_spec 12 _) ?_
  rintro _ h15 ⟨rfl, oc⟩
  have p15 := oc.thenE (by assumption)
  refine And.intro oc.ext ?_
  refine StillVC.eqS pl23 rfl rfl rfl rfl ?_
  refine Br.tt ?_
  refine Br.tt ?_
  refine Br.tt ?_
  refine StillVC.loadON p15 2 rfl ty23 rfl rfl rfl ?_
  refine CallVC.ret (mkNumber_spec 12 _) ?_
  rintro _ h16 ⟨rfl, oc⟩
  have p16 := oc.thenE (by assumption)
  refine And.intro oc.ext ?_
  refine StillVC.eqS pl23 rfl rfl rfl rfl ?_
  refine Br.tt ?_
  refine Br.tt ?_
  refine Br.tt ?_
  refine Br.tt ?_
  refine Br.tt ?_
  refine CallVC.ret (mkNumber_spec 3 _) ?_
  rintro _ h17 ⟨rfl, oc⟩
  have p17 := oc.thenE (by assumption)
  refine CallVC.ret (mkNumber_spec 1 _) ?_
  rintro _ h18 ⟨rfl, oc⟩
  have p18 := oc.thenE (by assumption)
  refine CallVC.ret (test_spec 2 3 [] 3 2 1 [] 3 _ (by decide) (by decide)) ?_
  rintro _ h19 ⟨rfl, oc⟩
  rw [ex_s1]
  have p19 := oc.thenE (by assumption)
  refine Br.tt ?_
  refine StillVC.run (StillVC.buildK st23 ?_)
  refine StillVC.run (StillVC.buildK st23 ?_)
  refine CallVC.ret (test_spec 0 0 [] 1 0 0 [] 0 _ (by decide) (by decide)) ?_
  rintro _ h20 ⟨rfl, oc⟩
  rw [ex_s2]
  have p20 := oc.thenE (by assumption)
  refine Br.tt ?_
  refine CallVC.ret (mkNumber_spec 9 _) ?_
  rintro _ h21 ⟨rfl, oc⟩
  have p21 := oc.thenE (by assumption)
  refine CallVC.ret (mkDay_spec 0 _) ?_
  rintro _ h22 ⟨rfl, oc⟩
  have p22 := oc.thenE (by assumption)
  refine CallVC.ret (compare_spec 2 9 [] 3 0 [] _) ?_
  rintro _ h23 ⟨rfl, oc⟩
  rw [ex_o]
  have p23 := oc.thenE (by assumption)
  refine Br.tt ?_
  refine CallVC.ret (mkDay_spec 73049 _) ?_
  rintro _ h24 ⟨rfl, oc⟩
  have p24 := oc.thenE (by assumption)
  refine CallVC.ret (valid_spec 3 73049 [] _ (by decide)) ?_
  rintro _ h25 ⟨rfl, oc⟩
  rw [decide_eq_false ex_v]
  have p25 := oc.thenE (by assumption)
  refine RetVC.one rfl ?_
  exact ⟨rfl, Own.sel (by assumption) [] rfl⟩

end Go.Proofs.YtffpaippmfafjaaGreatDoor
