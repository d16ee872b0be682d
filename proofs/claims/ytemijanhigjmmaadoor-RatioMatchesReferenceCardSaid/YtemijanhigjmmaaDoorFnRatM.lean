/-
  The statement RatioMatchesReference of chapter 1, walked.
-/
import Derived.Test.YtemijanhigjmmaaDoorStructs
import Derived.Test.YtemijanhigjmmaaDoorFnRatRefT
namespace Go.Proofs.YtemijanhigjmmaaDoor
open Go

theorem three (R : (Int × Int) × Int) : ∃ x y z, R = ((x, y), z) := by
  obtain ⟨⟨x, y⟩, z⟩ := R
  exact ⟨x, y, z, rfl⟩

set_option maxHeartbeats 8000000 in
set_option maxRecDepth 100000 in
theorem matches_spec (a b : Int × Int) (n d : Int) (t : List UInt8) (h : Heap) (ha : i64P a) (hb : i64P b) (hn : -9223372036854775808 ≤ n ∧ n ≤ 9223372036854775807) (hd : -9223372036854775808 ≤ d ∧ d ≤ 9223372036854775807) (hl : t.length ≤ 9223372036854775807) (ht : TabH h) (hv : VarH h) :
    SpecR Tryd.prog 7 [ratV a, ratV b, .agg ⟨[.int .i64 n, .int .i64 d, .string ⟨⟨t⟩⟩]⟩] h fun v h' => v = .bool true ∧ Own h [] h' := by
  obtain ⟨a1, a2⟩ := a
  obtain ⟨b1, b2⟩ := b
  show SpecR Tryd.prog 7 [.agg ⟨[.int .i64 a1, .int .i64 a2]⟩, .agg ⟨[.int .i64 b1, .int .i64 b2]⟩, .agg ⟨[.int .i64 n, .int .i64 d, .string ⟨⟨t⟩⟩]⟩] h _
  refine Spec.enter Tryd.func7 rfl Tryd.ntmps7 (by kernel_rfl) ?_
  have o0 := Own.refl h
  (refine RunVC.boxO o0 rfl ?_; intro b600 m600 o600)
  (refine RunVC.boxO o600 rfl ?_; intro b601 m601 o601)
  (refine RunVC.boxO o601 rfl ?_; intro b602 m602 o602)
  refine CallVC.ret (head_spec _ (ht.ext (Own.ext (by assumption))) (hv.ext (Own.ext (by assumption)))) ?_
  rintro _ h1 ⟨rfl, oc1⟩
  have p1 := oc1.thenE (by assumption)
  by_cases hlong : 1000 < t.length
  · refine StillVC.run (StillVC.fieldAddr st41 rfl rfl rfl ?_)
    refine StillVC.run (StillVC.loadO p1 2 rfl ty9 rfl rfl ?_)
    refine StillVC.run (StillVC.lenS rfl str9 ?_)
    refine Br.dec (fun c653 => ?_) (fun hc => absurd (by omega) hc)
    refine RetVC.one rfl ?_
    exact ⟨rfl, Own.sel (by assumption) [] rfl⟩
  obtain ⟨m1, m2, m3, hm⟩ := three (ratioR n d)
  refine StillVC.run (StillVC.fieldAddr st41 rfl rfl rfl ?_)
  refine StillVC.run (StillVC.loadO p1 2 rfl ty9 rfl rfl ?_)
  refine StillVC.run (StillVC.lenS rfl str9 ?_)
  refine Br.dec (fun hc => absurd hc (by omega)) (fun c33 => ?_)
  refine StillVC.run (StillVC.fieldAddr st41 rfl rfl rfl ?_)
  refine StillVC.run (StillVC.loadO p1 2 rfl ty3 rfl rfl ?_)
  refine StillVC.run (StillVC.fieldAddr st41 rfl rfl rfl ?_)
  refine StillVC.run (StillVC.loadO p1 2 rfl ty3 rfl rfl ?_)
  refine CallVC.ret (ratioMake_spec n d _ hn.1 hn.2 hd.1 hd.2) ?_
  rintro _ h11 ⟨rfl, oc11⟩
  have p11 := oc11.thenE (by assumption)
  rw [hm]
  (refine RunVC.alloc p11 ty24 ?_; intro b40 m40 o40)
  (refine RunVC.storeL o40 3 rfl ty24 rfl (by decide) (And.intro ⟨rfl, rfl⟩ ?_); intro m41 o41)
  refine StillVC.run (StillVC.fieldAddr st41 rfl rfl rfl ?_)
  refine StillVC.run (StillVC.loadO o41 2 rfl ty3 rfl rfl ?_)
  refine StillVC.run (StillVC.fieldAddr st41 rfl rfl rfl ?_)
  refine StillVC.run (StillVC.loadO o41 2 rfl ty3 rfl rfl ?_)
  refine CallVC.ret (makeR_spec n d _ hn.1 hn.2 hd.1 hd.2) ?_
  rintro _ h12 ⟨rfl, oc12⟩
  have p12 := oc12.thenE (by assumption)
  rw [hm]
  obtain ⟨p1, p2, p3, hp⟩ := three (parseP t)
  (refine RunVC.alloc p12 ty24 ?_; intro b50 m50 o50)
  (refine RunVC.storeL o50 4 rfl ty24 rfl (by decide) (And.intro ⟨rfl, rfl⟩ ?_); intro m51 o51)
  refine StillVC.run (StillVC.fieldAddr st41 rfl rfl rfl ?_)
  refine StillVC.run (StillVC.loadO o51 2 rfl ty9 rfl rfl ?_)
  refine CallVC.ret (parse_spec t _ (by omega) (ht.ext (Own.ext (by assumption))) (hv.ext (Own.ext (by assumption)))) ?_
  rintro _ h13 ⟨rfl, oc13⟩
  have p13 := oc13.thenE (by assumption)
  rw [hp]
  (refine RunVC.alloc p13 ty24 ?_; intro b60 m60 o60)
  (refine RunVC.storeL o60 5 rfl ty24 rfl (by decide) (And.intro ⟨rfl, rfl⟩ ?_); intro m61 o61)
  refine StillVC.run (StillVC.fieldAddr st41 rfl rfl rfl ?_)
  refine StillVC.run (StillVC.loadO o61 2 rfl ty9 rfl rfl ?_)
  refine CallVC.ret (parseRef_spec t _ (by omega)) ?_
  rintro _ h14 ⟨rfl, oc14⟩
  have p14 := oc14.thenE (by assumption)
  rw [hp]
  obtain ⟨s1, s2, s3, hs⟩ := three (addR (a1, a2) (b1, b2))
  (refine RunVC.alloc p14 ty24 ?_; intro b70 m70 o70)
  (refine RunVC.storeL o70 6 rfl ty24 rfl (by decide) (And.intro ⟨rfl, rfl⟩ ?_); intro m71 o71)
  refine StillVC.run (StillVC.loadON o71 3 rfl ty24 rfl rfl rfl ?_)
  refine StillVC.run (StillVC.loadON o71 4 rfl ty24 rfl rfl rfl ?_)
  refine StillVC.run (StillVC.neS pl24 rfl rfl rfl rfl ?_)
  refine Br.ffE (by first | omega | (simp; done)) ?_
  refine Br.ndec (fun hc => absurd (by first | omega | assumption | decide | exact rfl) hc) (fun c76 => ?_)
  refine StillVC.run (StillVC.loadON o71 5 rfl ty24 rfl rfl rfl ?_)
  refine StillVC.run (StillVC.loadON o71 6 rfl ty24 rfl rfl rfl ?_)
  refine StillVC.run (StillVC.neS pl24 rfl rfl rfl rfl ?_)
  refine Br.ffE (by first | omega | (simp; done)) ?_
  refine Br.ndec (fun hc => absurd (by first | omega | assumption | decide | exact rfl) hc) (fun c81 => ?_)
  refine StillVC.run (StillVC.loadON o71 0 rfl ty24 rfl rfl rfl ?_)
  refine StillVC.run (StillVC.loadON o71 1 rfl ty24 rfl rfl rfl ?_)
  refine CallVC.ret (add_spec (a1, a2) (b1, b2) _ ha hb) ?_
  rintro _ h15 ⟨rfl, oc15⟩
  have p15 := oc15.thenE (by assumption)
  rw [hs]
  (refine RunVC.alloc p15 ty24 ?_; intro b80 m80 o80)
  (refine RunVC.storeL o80 7 rfl ty24 rfl (by decide) (And.intro ⟨rfl, rfl⟩ ?_); intro m81 o81)
  refine StillVC.run (StillVC.loadON o81 0 rfl ty24 rfl rfl rfl ?_)
  refine StillVC.run (StillVC.loadON o81 1 rfl ty24 rfl rfl rfl ?_)
  refine CallVC.ret (addRef_spec (a1, a2) (b1, b2) _ ha hb) ?_
  rintro _ h16 ⟨rfl, oc16⟩
  have p16 := oc16.thenE (by assumption)
  rw [hs]
  obtain ⟨k1, k2, k3, hk⟩ := three (subR (a1, a2) (b1, b2))
  (refine RunVC.alloc p16 ty24 ?_; intro b90 m90 o90)
  (refine RunVC.storeL o90 8 rfl ty24 rfl (by decide) (And.intro ⟨rfl, rfl⟩ ?_); intro m91 o91)
  refine StillVC.run (StillVC.loadON o91 0 rfl ty24 rfl rfl rfl ?_)
  refine StillVC.run (StillVC.loadON o91 1 rfl ty24 rfl rfl rfl ?_)
  refine CallVC.ret (sub_spec (a1, a2) (b1, b2) _ ha hb) ?_
  rintro _ h17 ⟨rfl, oc17⟩
  have p17 := oc17.thenE (by assumption)
  rw [hk]
  (refine RunVC.alloc p17 ty24 ?_; intro b100 m100 o100)
  (refine RunVC.storeL o100 9 rfl ty24 rfl (by decide) (And.intro ⟨rfl, rfl⟩ ?_); intro m101 o101)
  refine StillVC.run (StillVC.loadON o101 0 rfl ty24 rfl rfl rfl ?_)
  refine StillVC.run (StillVC.loadON o101 1 rfl ty24 rfl rfl rfl ?_)
  refine CallVC.ret (subRef_spec (a1, a2) (b1, b2) _ ha hb) ?_
  rintro _ h18 ⟨rfl, oc18⟩
  have p18 := oc18.thenE (by assumption)
  rw [hk]
  obtain ⟨u1, u2, u3, hu⟩ := three (mulR (a1, a2) (b1, b2))
  (refine RunVC.alloc p18 ty24 ?_; intro b110 m110 o110)
  (refine RunVC.storeL o110 10 rfl ty24 rfl (by decide) (And.intro ⟨rfl, rfl⟩ ?_); intro m111 o111)
  refine StillVC.run (StillVC.loadON o111 0 rfl ty24 rfl rfl rfl ?_)
  refine StillVC.run (StillVC.loadON o111 1 rfl ty24 rfl rfl rfl ?_)
  refine CallVC.ret (mul_spec (a1, a2) (b1, b2) _ ha hb) ?_
  rintro _ h19 ⟨rfl, oc19⟩
  have p19 := oc19.thenE (by assumption)
  rw [hu]
  (refine RunVC.alloc p19 ty24 ?_; intro b120 m120 o120)
  (refine RunVC.storeL o120 11 rfl ty24 rfl (by decide) (And.intro ⟨rfl, rfl⟩ ?_); intro m121 o121)
  refine StillVC.run (StillVC.loadON o121 0 rfl ty24 rfl rfl rfl ?_)
  refine StillVC.run (StillVC.loadON o121 1 rfl ty24 rfl rfl rfl ?_)
  refine CallVC.ret (mulRef_spec (a1, a2) (b1, b2) _ ha hb) ?_
  rintro _ h20 ⟨rfl, oc20⟩
  have p20 := oc20.thenE (by assumption)
  rw [hu]
  obtain ⟨y1, y2, y3, hy⟩ := three (divR (a1, a2) (b1, b2))
  (refine RunVC.alloc p20 ty24 ?_; intro b130 m130 o130)
  (refine RunVC.storeL o130 12 rfl ty24 rfl (by decide) (And.intro ⟨rfl, rfl⟩ ?_); intro m131 o131)
  refine StillVC.run (StillVC.loadON o131 7 rfl ty24 rfl rfl rfl ?_)
  refine StillVC.run (StillVC.loadON o131 8 rfl ty24 rfl rfl rfl ?_)
  refine StillVC.run (StillVC.neS pl24 rfl rfl rfl rfl ?_)
  refine Br.ffE (by first | omega | (simp; done)) ?_
  refine Br.ndec (fun hc => absurd (by first | omega | assumption | decide | exact rfl) hc) (fun c136 => ?_)
  refine StillVC.run (StillVC.loadON o131 9 rfl ty24 rfl rfl rfl ?_)
  refine StillVC.run (StillVC.loadON o131 10 rfl ty24 rfl rfl rfl ?_)
  refine StillVC.run (StillVC.neS pl24 rfl rfl rfl rfl ?_)
  refine Br.ffE (by first | omega | (simp; done)) ?_
  refine Br.ndec (fun hc => absurd (by first | omega | assumption | decide | exact rfl) hc) (fun c141 => ?_)
  refine StillVC.run (StillVC.loadON o131 11 rfl ty24 rfl rfl rfl ?_)
  refine StillVC.run (StillVC.loadON o131 12 rfl ty24 rfl rfl rfl ?_)
  refine StillVC.run (StillVC.neS pl24 rfl rfl rfl rfl ?_)
  refine Br.ffE (by first | omega | (simp; done)) ?_
  refine Br.ndec (fun hc => absurd (by first | omega | assumption | decide | exact rfl) hc) (fun c146 => ?_)
  refine StillVC.run (StillVC.loadON o131 0 rfl ty24 rfl rfl rfl ?_)
  refine StillVC.run (StillVC.loadON o131 1 rfl ty24 rfl rfl rfl ?_)
  refine CallVC.ret (div_spec (a1, a2) (b1, b2) _ ha hb) ?_
  rintro _ h21 ⟨rfl, oc21⟩
  have p21 := oc21.thenE (by assumption)
  rw [hy]
  (refine RunVC.alloc p21 ty24 ?_; intro b140 m140 o140)
  (refine RunVC.storeL o140 13 rfl ty24 rfl (by decide) (And.intro ⟨rfl, rfl⟩ ?_); intro m141 o141)
  refine StillVC.run (StillVC.loadON o141 0 rfl ty24 rfl rfl rfl ?_)
  refine StillVC.run (StillVC.loadON o141 1 rfl ty24 rfl rfl rfl ?_)
  refine CallVC.ret (divRef_spec (a1, a2) (b1, b2) _ ha hb) ?_
  rintro _ h22 ⟨rfl, oc22⟩
  have p22 := oc22.thenE (by assumption)
  rw [hy]
  (refine RunVC.alloc p22 ty24 ?_; intro b150 m150 o150)
  (refine RunVC.storeL o150 14 rfl ty24 rfl (by decide) (And.intro ⟨rfl, rfl⟩ ?_); intro m151 o151)
  refine DrawVC.intro [0, 1, 4, 5, 6, 7, 8, 9, 10, 11, 16, 17, 18, 25, 26, 27, 32, 33, 34] [2, 3, 12, 14, 19, 20, 22, 23, 28, 30] [31] [0, 1, 2, 3, 4, 5, 6, 7, 8, 9, 10, 11, 12, 14, 13, 15, 16, 17, 18, 19, 20, 22, 23, 21, 24, 25, 26, 27, 28, 30, 29, 31, 32, 33, 34] mixed (by kernel_rfl) rfl (fun _ _ _ _ h => h) ?_
  refine Br.tt ?_
  refine StillVC.loadON o151 13 rfl ty24 rfl rfl rfl ?_
  refine StillVC.loadON o151 14 rfl ty24 rfl rfl rfl ?_
  refine StillVC.eqS pl24 rfl rfl rfl rfl ?_
  refine Br.ttE (by first | omega | (simp; done)) ?_
  refine Br.dec (fun c156 => ?_) (fun hc => absurd (by omega) hc)
  refine StillVC.loadON o151 0 rfl ty24 rfl rfl rfl ?_
  refine StillVC.loadON o151 0 rfl ty24 rfl rfl rfl ?_
  refine CallVC.ret (valid_spec (a1, a2) _ ha) ?_
  rintro _ h23 ⟨rfl, oc23⟩
  have p23 := oc23.thenE (by assumption)
  refine And.intro oc23.ext ?_
  refine CallVC.ret (validR_spec (a1, a2) _ ha) ?_
  rintro _ h24 ⟨rfl, oc24⟩
  have p24 := oc24.thenE (by assumption)
  refine And.intro oc24.ext ?_
  refine StillVC.eqB bool4 rfl rfl ?_
  refine Br.dec (fun c171 => ?_) (fun hc => absurd (by first | assumption | decide | exact rfl | (simp; done)) hc)
  refine StillVC.loadON p24 0 rfl ty24 rfl rfl rfl ?_
  refine StillVC.loadON p24 1 rfl ty24 rfl rfl rfl ?_
  refine StillVC.loadON p24 0 rfl ty24 rfl rfl rfl ?_
  refine StillVC.loadON p24 1 rfl ty24 rfl rfl rfl ?_
  refine CallVC.ret (cmp_spec (a1, a2) (b1, b2) _ ha hb) ?_
  rintro _ h25 ⟨rfl, oc25⟩
  have p25 := oc25.thenE (by assumption)
  refine And.intro oc25.ext ?_
  refine CallVC.ret (cmpRef_spec (a1, a2) (b1, b2) _ ha hb) ?_
  rintro _ h26 ⟨rfl, oc26⟩
  have p26 := oc26.thenE (by assumption)
  refine And.intro oc26.ext ?_
  refine Br.dec (fun c190 => ?_) (fun hc => absurd (by omega) hc)
  refine StillVC.loadON p26 0 rfl ty24 rfl rfl rfl ?_
  refine StillVC.loadON p26 0 rfl ty24 rfl rfl rfl ?_
  refine CallVC.ret (text_spec (a1, a2) _ ha (ht.ext (Own.ext (by assumption)))) ?_
  rintro _ h27 ⟨rfl, oc27⟩
  have p27 := oc27.thenE (by assumption)
  refine And.intro oc27.ext ?_
  refine CallVC.ret (textRef_spec (a1, a2) _ ha) ?_
  rintro _ h28 ⟨rfl, oc28⟩
  have p28 := oc28.thenE (by assumption)
  refine RetVC.one rfl ?_
  exact ⟨by first | rfl | simp, Own.sel (by assumption) [] rfl⟩

end Go.Proofs.YtemijanhigjmmaaDoor
