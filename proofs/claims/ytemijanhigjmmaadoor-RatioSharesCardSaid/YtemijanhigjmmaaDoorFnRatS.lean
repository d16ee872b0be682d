/-
  The statement RatioShares of chapter 1, walked.
-/
import Derived.Test.YtemijanhigjmmaaDoorStructs
import Derived.Test.YtemijanhigjmmaaDoorFnRatPack2
namespace Go.Proofs.YtemijanhigjmmaaDoor
open Go

set_option maxHeartbeats 8000000 in
set_option maxRecDepth 100000 in
theorem shares_spec (a b : Int × Int) (h : Heap) (ha : i64P a) (hb : i64P b) (ht : TabH h) (hv : VarH h) :
    SpecR Tryd.prog 6 [ratV a, ratV b] h fun v h' => v = .bool true ∧ Own h [] h' := by
  obtain ⟨a1, a2⟩ := a
  obtain ⟨b1, b2⟩ := b
  show SpecR Tryd.prog 6 [.agg ⟨[.int .i64 a1, .int .i64 a2]⟩, .agg ⟨[.int .i64 b1, .int .i64 b2]⟩] h _
  refine Spec.enter Tryd.func6 rfl Tryd.ntmps6 (by kernel_rfl) ?_
  have o0 := Own.refl h
  (refine RunVC.boxO o0 rfl ?_; intro b20 m20 o20)
  (refine RunVC.boxO o20 rfl ?_; intro b21 m21 o21)
  refine CallVC.ret (head_spec _ (ht.ext (Own.ext (by assumption))) (hv.ext (Own.ext (by assumption)))) ?_
  rintro _ h1 ⟨rfl, oc1⟩
  have p1 := oc1.thenE (by assumption)
  refine CallVC.ret (of_spec 0 1 _) ?_
  rintro _ h2 ⟨rfl, oc2⟩
  have p2 := oc2.thenE (by assumption)
  (refine RunVC.alloc p2 ty24 ?_; intro b40 m40 o40)
  (refine RunVC.storeL o40 2 rfl ty24 rfl (by decide) (And.intro ⟨rfl, rfl⟩ ?_); intro m41 o41)
  refine CallVC.ret (of_spec 1 1 _) ?_
  rintro _ h3 ⟨rfl, oc3⟩
  have p3 := oc3.thenE (by assumption)
  (refine RunVC.alloc p3 ty24 ?_; intro b50 m50 o50)
  (refine RunVC.storeL o50 3 rfl ty24 rfl (by decide) (And.intro ⟨rfl, rfl⟩ ?_); intro m51 o51)
  refine StillVC.run (StillVC.loadON o51 0 rfl ty24 rfl rfl rfl ?_)
  refine CallVC.ret (valid_spec (a1, a2) _ ha) ?_
  rintro _ h4 ⟨rfl, oc4⟩
  have p4 := oc4.thenE (by assumption)
  cases ka : okP (a1, a2) with
  | false =>
    refine Br.tt ?_
    refine Br.tt ?_
    refine RetVC.one rfl ?_
    exact ⟨rfl, Own.sel (by assumption) [] rfl⟩
  | true =>
  refine Br.ff ?_
  refine StillVC.run (StillVC.loadON p4 1 rfl ty24 rfl rfl rfl ?_)
  refine CallVC.ret (valid_spec (b1, b2) _ hb) ?_
  rintro _ h5 ⟨rfl, oc5⟩
  have p5 := oc5.thenE (by assumption)
  cases kb : okP (b1, b2) with
  | false =>
    refine Br.tt ?_
    refine Br.tt ?_
    refine RetVC.one rfl ?_
    exact ⟨rfl, Own.sel (by assumption) [] rfl⟩
  | true =>
  refine Br.ff ?_
  refine StillVC.run (StillVC.loadON p5 0 rfl ty24 rfl rfl rfl ?_)
  refine StillVC.run (StillVC.loadON p5 2 rfl ty24 rfl rfl rfl ?_)
  refine CallVC.ret (cmp_spec (a1, a2) (0, 1) _ ha (okP_i64 kzero)) ?_
  rintro _ h6 ⟨rfl, oc6⟩
  have p6 := oc6.thenE (by assumption)
  by_cases hg0 : cmpR (a1, a2) (0, 1) < 0
  · refine Br.dec (fun c100 => ?_) (fun hc => absurd (by omega) hc)
    refine Br.tt ?_
    refine RetVC.one rfl ?_
    exact ⟨rfl, Own.sel (by assumption) [] rfl⟩
  have la : 0 ≤ ofP (a1, a2) := by have := (cmpR_ge ka kzero).1 (show 0 ≤ cmpR (a1, a2) (0, 1) by omega); rwa [e0] at this
  refine Br.dec (fun hc => absurd hc (by omega)) (fun c110 => ?_)
  refine StillVC.run (StillVC.loadON p6 1 rfl ty24 rfl rfl rfl ?_)
  refine StillVC.run (StillVC.loadON p6 2 rfl ty24 rfl rfl rfl ?_)
  refine CallVC.ret (cmp_spec (b1, b2) (0, 1) _ hb (okP_i64 kzero)) ?_
  rintro _ h7 ⟨rfl, oc7⟩
  have p7 := oc7.thenE (by assumption)
  by_cases hg1 : cmpR (b1, b2) (0, 1) < 0
  · refine Br.dec (fun c120 => ?_) (fun hc => absurd (by omega) hc)
    refine Br.tt ?_
    refine RetVC.one rfl ?_
    exact ⟨rfl, Own.sel (by assumption) [] rfl⟩
  have lb : 0 ≤ ofP (b1, b2) := by have := (cmpR_ge kb kzero).1 (show 0 ≤ cmpR (b1, b2) (0, 1) by omega); rwa [e0] at this
  refine Br.dec (fun hc => absurd hc (by omega)) (fun c130 => ?_)
  refine StillVC.run (StillVC.loadON p7 0 rfl ty24 rfl rfl rfl ?_)
  refine StillVC.run (StillVC.loadON p7 3 rfl ty24 rfl rfl rfl ?_)
  refine CallVC.ret (cmp_spec (a1, a2) (1, 1) _ ha (okP_i64 kone)) ?_
  rintro _ h8 ⟨rfl, oc8⟩
  have p8 := oc8.thenE (by assumption)
  by_cases hg2 : 0 < cmpR (a1, a2) (1, 1)
  · refine Br.dec (fun c140 => ?_) (fun hc => absurd (by omega) hc)
    refine Br.tt ?_
    refine RetVC.one rfl ?_
    exact ⟨rfl, Own.sel (by assumption) [] rfl⟩
  have ua : ofP (a1, a2) ≤ 1 := by have := (cmpR_le ka kone).1 (show cmpR (a1, a2) (1, 1) ≤ 0 by omega); rwa [e1] at this
  refine Br.dec (fun hc => absurd hc (by omega)) (fun c150 => ?_)
  refine StillVC.run (StillVC.loadON p8 1 rfl ty24 rfl rfl rfl ?_)
  refine StillVC.run (StillVC.loadON p8 3 rfl ty24 rfl rfl rfl ?_)
  refine CallVC.ret (cmp_spec (b1, b2) (1, 1) _ hb (okP_i64 kone)) ?_
  rintro _ h9 ⟨rfl, oc9⟩
  have p9 := oc9.thenE (by assumption)
  by_cases hg3 : 0 < cmpR (b1, b2) (1, 1)
  · refine Br.dec (fun c160 => ?_) (fun hc => absurd (by omega) hc)
    refine RetVC.one rfl ?_
    exact ⟨rfl, Own.sel (by assumption) [] rfl⟩
  have ub : ofP (b1, b2) ≤ 1 := by have := (cmpR_le kb kone).1 (show cmpR (b1, b2) (1, 1) ≤ 0 by omega); rwa [e1] at this
  refine Br.dec (fun hc => absurd hc (by omega)) (fun c190 => ?_)
  refine StillVC.run (StillVC.loadON p9 0 rfl ty24 rfl rfl rfl ?_)
  refine StillVC.run (StillVC.loadON p9 1 rfl ty24 rfl rfl rfl ?_)
  refine CallVC.ret (cmp_spec (a1, a2) (b1, b2) _ ha hb) ?_
  rintro _ h10 ⟨rfl, oc10⟩
  have p10 := oc10.thenE (by assumption)
  have q10 : Own h [box b20 [.int .i64 a1, .int .i64 a2] 24, box b21 [.int .i64 b1, .int .i64 b2] 24, box b40 [.int .i64 0, .int .i64 1] 24, box b50 [.int .i64 1, .int .i64 1] 24] h10 := p10.sel [0, 1, 2, 3] rfl
  clear p10
  by_cases hab : cmpR (a1, a2) (b1, b2) ≤ 0
  · have hle := (cmpR_le ka kb).1 hab
    generalize cmpR (a1, a2) (b1, b2) = G at *
    refine Br.dec (fun hc => absurd hc (by omega)) (fun c1120 => ?_)
    refine StillVC.run (StillVC.loadON q10 0 rfl ty24 rfl rfl rfl ?_)
    refine StillVC.run (StillVC.loadON q10 1 rfl ty24 rfl rfl rfl ?_)
    obtain ⟨m1, m2, e, hm, hme⟩ := packR_two (ofP (a1, a2) * ofP (b1, b2))
    refine CallVC.ret (mul_spec (a1, a2) (b1, b2) _ ha hb) ?_
    rintro _ h21 ⟨rfl, oc21⟩
    have p21 := oc21.thenE (by assumption)
    rw [mulR_ok ka kb, hm]
    by_cases hz : b1 = 0
    · have hyz := zero_pair kb hz
      (refine RunVC.alloc p21 ty24 ?_; intro b1140 m1140 o1140)
      (refine RunVC.storeL o1140 4 rfl ty24 rfl (by decide) (And.intro ⟨rfl, rfl⟩ ?_); intro m1141 o1141)
      refine StillVC.run (StillVC.loadON o1141 0 rfl ty24 rfl rfl rfl ?_)
      refine StillVC.run (StillVC.loadON o1141 1 rfl ty24 rfl rfl rfl ?_)
      refine CallVC.ret (div_spec (a1, a2) (b1, b2) _ ha hb) ?_
      rintro _ h22 ⟨rfl, oc22⟩
      have p22 := oc22.thenE (by assumption)
      rw [divR_zero ka kb hz]
      obtain ⟨rfl, rfl⟩ : b1 = 0 ∧ b2 = 1 := by simpa using hyz
      rcases hme with ⟨rfl, km, qm⟩ | ⟨rfl, rfl, rfl, _⟩
      · have g1 := (cmpR_ge km kzero).2 (by rw [qm, e0]; exact Rat.mul_nonneg la (Rat.le_trans la hle))
        have g2 := (cmpR_le km ka).2 (by rw [qm]; exact mul_le1 la ub)
        (refine RunVC.alloc p22 ty24 ?_; intro b1160 m1160 o1160)
        (refine RunVC.storeL o1160 5 rfl ty24 rfl (by decide) (And.intro ⟨rfl, rfl⟩ ?_); intro m1161 o1161)
        refine Br.dec (fun c1162 => ?_) (fun hc => absurd (by omega) hc)
        refine StillVC.run (StillVC.loadON o1161 4 rfl ty24 rfl rfl rfl ?_)
        refine StillVC.run (StillVC.loadON o1161 2 rfl ty24 rfl rfl rfl ?_)
        refine CallVC.ret (cmp_spec (m1, m2) (0, 1) _ (okP_i64 km) (okP_i64 kzero)) ?_
        rintro _ h23 ⟨rfl, oc23⟩
        have p23 := oc23.thenE (by assumption)
        generalize cmpR (m1, m2) (0, 1) = G1 at *
        refine Br.dec (fun hc => absurd hc (by omega)) (fun c1180 => ?_)
        refine StillVC.run (StillVC.loadON p23 4 rfl ty24 rfl rfl rfl ?_)
        refine StillVC.run (StillVC.loadON p23 0 rfl ty24 rfl rfl rfl ?_)
        refine CallVC.ret (cmp_spec (m1, m2) (a1, a2) _ (okP_i64 km) ha) ?_
        rintro _ h24 ⟨rfl, oc24⟩
        have p24 := oc24.thenE (by assumption)
        generalize cmpR (m1, m2) (a1, a2) = G2 at *
        refine Br.dec (fun hc => absurd hc (by omega)) (fun c1200 => ?_)
        refine Br.ff ?_
        refine Br.ff ?_
        refine Br.tt ?_
        refine Br.dec (fun c1201 => ?_) (fun hc => absurd (by omega) hc)
        refine Br.ff ?_
        refine Br.ff ?_
        refine Br.tt ?_
        refine StillVC.run (StillVC.loadON p24 1 rfl ty24 rfl rfl rfl ?_)
        refine StillVC.run (StillVC.loadON p24 2 rfl ty24 rfl rfl rfl ?_)
        refine StillVC.run (StillVC.eqS pl24 rfl rfl rfl rfl ?_)
        refine RetVC.one rfl ?_
        exact ⟨by first | rfl | simp, Own.sel (by assumption) [] rfl⟩
      · skip
        (refine RunVC.alloc p22 ty24 ?_; intro b1220 m1220 o1220)
        (refine RunVC.storeL o1220 5 rfl ty24 rfl (by decide) (And.intro ⟨rfl, rfl⟩ ?_); intro m1221 o1221)
        refine Br.ff ?_
        refine Br.ff ?_
        refine Br.ff ?_
        refine Br.tt ?_
        refine Br.ff ?_
        refine Br.tt ?_
        refine Br.ff ?_
        refine Br.ff ?_
        refine Br.tt ?_
        refine StillVC.run (StillVC.loadON o1221 1 rfl ty24 rfl rfl rfl ?_)
        refine StillVC.run (StillVC.loadON o1221 2 rfl ty24 rfl rfl rfl ?_)
        refine StillVC.run (StillVC.eqS pl24 rfl rfl rfl rfl ?_)
        refine RetVC.one rfl ?_
        exact ⟨by first | rfl | simp, Own.sel (by assumption) [] rfl⟩
    · have hne : ofP (b1, b2) ≠ 0 := fun e => hz ((ofP_zero kb).2 e)
      obtain ⟨d1, d2, f, hd, hdf⟩ := packR_two (ofP (a1, a2) / ofP (b1, b2))
      (refine RunVC.alloc p21 ty24 ?_; intro b1240 m1240 o1240)
      (refine RunVC.storeL o1240 4 rfl ty24 rfl (by decide) (And.intro ⟨rfl, rfl⟩ ?_); intro m1241 o1241)
      refine StillVC.run (StillVC.loadON o1241 0 rfl ty24 rfl rfl rfl ?_)
      refine StillVC.run (StillVC.loadON o1241 1 rfl ty24 rfl rfl rfl ?_)
      refine CallVC.ret (div_spec (a1, a2) (b1, b2) _ ha hb) ?_
      rintro _ h25 ⟨rfl, oc25⟩
      have p25 := oc25.thenE (by assumption)
      rw [divR_ok ka kb hz, hd]
      rcases hdf with ⟨rfl, kq, qq⟩ | ⟨rfl, rfl, rfl, _⟩
      · skip
        rcases hme with ⟨rfl, km, qm⟩ | ⟨rfl, rfl, rfl, _⟩
        · have g1 := (cmpR_ge km kzero).2 (by rw [qm, e0]; exact Rat.mul_nonneg la (Rat.le_trans la hle))
          have g2 := (cmpR_le km ka).2 (by rw [qm]; exact mul_le1 la ub)
          (refine RunVC.alloc p25 ty24 ?_; intro b1260 m1260 o1260)
          (refine RunVC.storeL o1260 5 rfl ty24 rfl (by decide) (And.intro ⟨rfl, rfl⟩ ?_); intro m1261 o1261)
          refine Br.dec (fun c1262 => ?_) (fun hc => absurd (by omega) hc)
          refine StillVC.run (StillVC.loadON o1261 4 rfl ty24 rfl rfl rfl ?_)
          refine StillVC.run (StillVC.loadON o1261 2 rfl ty24 rfl rfl rfl ?_)
          refine CallVC.ret (cmp_spec (m1, m2) (0, 1) _ (okP_i64 km) (okP_i64 kzero)) ?_
          rintro _ h26 ⟨rfl, oc26⟩
          have p26 := oc26.thenE (by assumption)
          generalize cmpR (m1, m2) (0, 1) = G1 at *
          refine Br.dec (fun hc => absurd hc (by omega)) (fun c1280 => ?_)
          refine StillVC.run (StillVC.loadON p26 4 rfl ty24 rfl rfl rfl ?_)
          refine StillVC.run (StillVC.loadON p26 0 rfl ty24 rfl rfl rfl ?_)
          refine CallVC.ret (cmp_spec (m1, m2) (a1, a2) _ (okP_i64 km) ha) ?_
          rintro _ h27 ⟨rfl, oc27⟩
          have p27 := oc27.thenE (by assumption)
          generalize cmpR (m1, m2) (a1, a2) = G2 at *
          have g3 := (cmpR_ge kq kzero).2 (by rw [qq, e0]; exact (div01 la hle hne).1)
          have g4 := (cmpR_le kq kone).2 (by rw [qq, e1]; exact (div01 la hle hne).2)
          refine Br.dec (fun hc => absurd hc (by omega)) (fun c1300 => ?_)
          refine Br.dec (fun c1301 => ?_) (fun hc => absurd (by omega) hc)
          refine StillVC.run (StillVC.loadON p27 5 rfl ty24 rfl rfl rfl ?_)
          refine StillVC.run (StillVC.loadON p27 2 rfl ty24 rfl rfl rfl ?_)
          refine CallVC.ret (cmp_spec (d1, d2) (0, 1) _ (okP_i64 kq) (okP_i64 kzero)) ?_
          rintro _ h28 ⟨rfl, oc28⟩
          have p28 := oc28.thenE (by assumption)
          generalize cmpR (d1, d2) (0, 1) = G3 at *
          refine Br.dec (fun hc => absurd hc (by omega)) (fun c1320 => ?_)
          refine StillVC.run (StillVC.loadON p28 5 rfl ty24 rfl rfl rfl ?_)
          refine StillVC.run (StillVC.loadON p28 3 rfl ty24 rfl rfl rfl ?_)
          refine CallVC.ret (cmp_spec (d1, d2) (1, 1) _ (okP_i64 kq) (okP_i64 kone)) ?_
          rintro _ h29 ⟨rfl, oc29⟩
          have p29 := oc29.thenE (by assumption)
          generalize cmpR (d1, d2) (1, 1) = G4 at *
          refine Br.dec (fun hc => absurd hc (by omega)) (fun c1340 => ?_)
          refine Br.tt ?_
          refine Br.dec (fun c1341 => ?_) (fun hc => absurd (by omega) hc)
          refine Br.dec (fun c1342 => ?_) (fun hc => absurd (by omega) hc)
          refine RetVC.one rfl ?_
          exact ⟨by first | rfl | simp, Own.sel (by assumption) [] rfl⟩
        · skip
          have g3 := (cmpR_ge kq kzero).2 (by rw [qq, e0]; exact (div01 la hle hne).1)
          have g4 := (cmpR_le kq kone).2 (by rw [qq, e1]; exact (div01 la hle hne).2)
          (refine RunVC.alloc p25 ty24 ?_; intro b1360 m1360 o1360)
          (refine RunVC.storeL o1360 5 rfl ty24 rfl (by decide) (And.intro ⟨rfl, rfl⟩ ?_); intro m1361 o1361)
          refine Br.ff ?_
          refine Br.dec (fun c1362 => ?_) (fun hc => absurd (by omega) hc)
          refine StillVC.run (StillVC.loadON o1361 5 rfl ty24 rfl rfl rfl ?_)
          refine StillVC.run (StillVC.loadON o1361 2 rfl ty24 rfl rfl rfl ?_)
          refine CallVC.ret (cmp_spec (d1, d2) (0, 1) _ (okP_i64 kq) (okP_i64 kzero)) ?_
          rintro _ h30 ⟨rfl, oc30⟩
          have p30 := oc30.thenE (by assumption)
          generalize cmpR (d1, d2) (0, 1) = G3 at *
          refine Br.dec (fun hc => absurd hc (by omega)) (fun c1380 => ?_)
          refine StillVC.run (StillVC.loadON p30 5 rfl ty24 rfl rfl rfl ?_)
          refine StillVC.run (StillVC.loadON p30 3 rfl ty24 rfl rfl rfl ?_)
          refine CallVC.ret (cmp_spec (d1, d2) (1, 1) _ (okP_i64 kq) (okP_i64 kone)) ?_
          rintro _ h31 ⟨rfl, oc31⟩
          have p31 := oc31.thenE (by assumption)
          generalize cmpR (d1, d2) (1, 1) = G4 at *
          refine Br.dec (fun hc => absurd hc (by omega)) (fun c1400 => ?_)
          refine Br.tt ?_
          refine Br.ff ?_
          refine Br.tt ?_
          refine Br.dec (fun c1401 => ?_) (fun hc => absurd (by omega) hc)
          refine RetVC.one rfl ?_
          exact ⟨by first | rfl | simp, Own.sel (by assumption) [] rfl⟩
      · skip
        rcases hme with ⟨rfl, km, qm⟩ | ⟨rfl, rfl, rfl, _⟩
        · have g1 := (cmpR_ge km kzero).2 (by rw [qm, e0]; exact Rat.mul_nonneg la (Rat.le_trans la hle))
          have g2 := (cmpR_le km ka).2 (by rw [qm]; exact mul_le1 la ub)
          (refine RunVC.alloc p25 ty24 ?_; intro b1420 m1420 o1420)
          (refine RunVC.storeL o1420 5 rfl ty24 rfl (by decide) (And.intro ⟨rfl, rfl⟩ ?_); intro m1421 o1421)
          refine Br.dec (fun c1422 => ?_) (fun hc => absurd (by omega) hc)
          refine StillVC.run (StillVC.loadON o1421 4 rfl ty24 rfl rfl rfl ?_)
          refine StillVC.run (StillVC.loadON o1421 2 rfl ty24 rfl rfl rfl ?_)
          refine CallVC.ret (cmp_spec (m1, m2) (0, 1) _ (okP_i64 km) (okP_i64 kzero)) ?_
          rintro _ h32 ⟨rfl, oc32⟩
          have p32 := oc32.thenE (by assumption)
          generalize cmpR (m1, m2) (0, 1) = G1 at *
          refine Br.dec (fun hc => absurd hc (by omega)) (fun c1440 => ?_)
          refine StillVC.run (StillVC.loadON p32 4 rfl ty24 rfl rfl rfl ?_)
          refine StillVC.run (StillVC.loadON p32 0 rfl ty24 rfl rfl rfl ?_)
          refine CallVC.ret (cmp_spec (m1, m2) (a1, a2) _ (okP_i64 km) ha) ?_
          rintro _ h33 ⟨rfl, oc33⟩
          have p33 := oc33.thenE (by assumption)
          generalize cmpR (m1, m2) (a1, a2) = G2 at *
          refine Br.dec (fun hc => absurd hc (by omega)) (fun c1460 => ?_)
          refine Br.ff ?_
          refine Br.ff ?_
          refine Br.tt ?_
          refine Br.dec (fun c1461 => ?_) (fun hc => absurd (by omega) hc)
          refine Br.ff ?_
          refine Br.tt ?_
          refine RetVC.one rfl ?_
          exact ⟨by first | rfl | simp, Own.sel (by assumption) [] rfl⟩
        · skip
          (refine RunVC.alloc p25 ty24 ?_; intro b1480 m1480 o1480)
          (refine RunVC.storeL o1480 5 rfl ty24 rfl (by decide) (And.intro ⟨rfl, rfl⟩ ?_); intro m1481 o1481)
          refine Br.ff ?_
          refine Br.ff ?_
          refine Br.ff ?_
          refine Br.tt ?_
          refine Br.ff ?_
          refine Br.tt ?_
          refine Br.ff ?_
          refine Br.tt ?_
          refine RetVC.one rfl ?_
          exact ⟨by first | rfl | simp, Own.sel (by assumption) [] rfl⟩
  · have hle : ofP (b1, b2) ≤ ofP (a1, a2) := by have := mt (cmpR_le ka kb).2 hab; grind
    generalize cmpR (a1, a2) (b1, b2) = G at *
    refine Br.dec (fun c1500 => ?_) (fun hc => absurd (by omega) hc)
    refine StillVC.run (StillVC.loadON q10 1 rfl ty24 rfl rfl rfl ?_)
    refine StillVC.run (StillVC.loadON q10 0 rfl ty24 rfl rfl rfl ?_)
    (refine RunVC.store q10 0 rfl ty24 rfl (by simp) (And.intro ⟨rfl, rfl⟩ ?_); intro m1503 o1503)
    (refine RunVC.store o1503 1 rfl ty24 rfl (by simp) (And.intro ⟨rfl, rfl⟩ ?_); intro m1504 o1504)
    refine StillVC.run (StillVC.loadON o1504 0 rfl ty24 rfl rfl rfl ?_)
    refine StillVC.run (StillVC.loadON o1504 1 rfl ty24 rfl rfl rfl ?_)
    obtain ⟨m1, m2, e, hm, hme⟩ := packR_two (ofP (b1, b2) * ofP (a1, a2))
    refine CallVC.ret (mul_spec (b1, b2) (a1, a2) _ hb ha) ?_
    rintro _ h34 ⟨rfl, oc34⟩
    have p34 := oc34.thenE (by assumption)
    rw [mulR_ok kb ka, hm]
    by_cases hz : a1 = 0
    · have hyz := zero_pair ka hz
      (refine RunVC.alloc p34 ty24 ?_; intro b1520 m1520 o1520)
      (refine RunVC.storeL o1520 4 rfl ty24 rfl (by decide) (And.intro ⟨rfl, rfl⟩ ?_); intro m1521 o1521)
      refine StillVC.run (StillVC.loadON o1521 0 rfl ty24 rfl rfl rfl ?_)
      refine StillVC.run (StillVC.loadON o1521 1 rfl ty24 rfl rfl rfl ?_)
      refine CallVC.ret (div_spec (b1, b2) (a1, a2) _ hb ha) ?_
      rintro _ h35 ⟨rfl, oc35⟩
      have p35 := oc35.thenE (by assumption)
      rw [divR_zero kb ka hz]
      obtain ⟨rfl, rfl⟩ : a1 = 0 ∧ a2 = 1 := by simpa using hyz
      rcases hme with ⟨rfl, km, qm⟩ | ⟨rfl, rfl, rfl, _⟩
      · have g1 := (cmpR_ge km kzero).2 (by rw [qm, e0]; exact Rat.mul_nonneg lb (Rat.le_trans lb hle))
        have g2 := (cmpR_le km kb).2 (by rw [qm]; exact mul_le1 lb ua)
        (refine RunVC.alloc p35 ty24 ?_; intro b1540 m1540 o1540)
        (refine RunVC.storeL o1540 5 rfl ty24 rfl (by decide) (And.intro ⟨rfl, rfl⟩ ?_); intro m1541 o1541)
        refine Br.dec (fun c1542 => ?_) (fun hc => absurd (by omega) hc)
        refine StillVC.run (StillVC.loadON o1541 4 rfl ty24 rfl rfl rfl ?_)
        refine StillVC.run (StillVC.loadON o1541 2 rfl ty24 rfl rfl rfl ?_)
        refine CallVC.ret (cmp_spec (m1, m2) (0, 1) _ (okP_i64 km) (okP_i64 kzero)) ?_
        rintro _ h36 ⟨rfl, oc36⟩
        have p36 := oc36.thenE (by assumption)
        generalize cmpR (m1, m2) (0, 1) = G1 at *
        refine Br.dec (fun hc => absurd hc (by omega)) (fun c1560 => ?_)
        refine StillVC.run (StillVC.loadON p36 4 rfl ty24 rfl rfl rfl ?_)
        refine StillVC.run (StillVC.loadON p36 0 rfl ty24 rfl rfl rfl ?_)
        refine CallVC.ret (cmp_spec (m1, m2) (b1, b2) _ (okP_i64 km) hb) ?_
        rintro _ h37 ⟨rfl, oc37⟩
        have p37 := oc37.thenE (by assumption)
        generalize cmpR (m1, m2) (b1, b2) = G2 at *
        refine Br.dec (fun hc => absurd hc (by omega)) (fun c1580 => ?_)
        refine Br.ff ?_
        refine Br.ff ?_
        refine Br.tt ?_
        refine Br.dec (fun c1581 => ?_) (fun hc => absurd (by omega) hc)
        refine Br.ff ?_
        refine Br.ff ?_
        refine Br.tt ?_
        refine StillVC.run (StillVC.loadON p37 1 rfl ty24 rfl rfl rfl ?_)
        refine StillVC.run (StillVC.loadON p37 2 rfl ty24 rfl rfl rfl ?_)
        refine StillVC.run (StillVC.eqS pl24 rfl rfl rfl rfl ?_)
        refine RetVC.one rfl ?_
        exact ⟨by first | rfl | simp, Own.sel (by assumption) [] rfl⟩
      · skip
        (refine RunVC.alloc p35 ty24 ?_; intro b1600 m1600 o1600)
        (refine RunVC.storeL o1600 5 rfl ty24 rfl (by decide) (And.intro ⟨rfl, rfl⟩ ?_); intro m1601 o1601)
        refine Br.ff ?_
        refine Br.ff ?_
        refine Br.ff ?_
        refine Br.tt ?_
        refine Br.ff ?_
        refine Br.tt ?_
        refine Br.ff ?_
        refine Br.ff ?_
        refine Br.tt ?_
        refine StillVC.run (StillVC.loadON o1601 1 rfl ty24 rfl rfl rfl ?_)
        refine StillVC.run (StillVC.loadON o1601 2 rfl ty24 rfl rfl rfl ?_)
        refine StillVC.run (StillVC.eqS pl24 rfl rfl rfl rfl ?_)
        refine RetVC.one rfl ?_
        exact ⟨by first | rfl | simp, Own.sel (by assumption) [] rfl⟩
    · have hne : ofP (a1, a2) ≠ 0 := fun e => hz ((ofP_zero ka).2 e)
      obtain ⟨d1, d2, f, hd, hdf⟩ := packR_two (ofP (b1, b2) / ofP (a1, a2))
      (refine RunVC.alloc p34 ty24 ?_; intro b1620 m1620 o1620)
      (refine RunVC.storeL o1620 4 rfl ty24 rfl (by decide) (And.intro ⟨rfl, rfl⟩ ?_); intro m1621 o1621)
      refine StillVC.run (StillVC.loadON o1621 0 rfl ty24 rfl rfl rfl ?_)
      refine StillVC.run (StillVC.loadON o1621 1 rfl ty24 rfl rfl rfl ?_)
      refine CallVC.ret (div_spec (b1, b2) (a1, a2) _ hb ha) ?_
      rintro _ h38 ⟨rfl, oc38⟩
      have p38 := oc38.thenE (by assumption)
      rw [divR_ok kb ka hz, hd]
      rcases hdf with ⟨rfl, kq, qq⟩ | ⟨rfl, rfl, rfl, _⟩
      · skip
        rcases hme with ⟨rfl, km, qm⟩ | ⟨rfl, rfl, rfl, _⟩
        · have g1 := (cmpR_ge km kzero).2 (by rw [qm, e0]; exact Rat.mul_nonneg lb (Rat.le_trans lb hle))
          have g2 := (cmpR_le km kb).2 (by rw [qm]; exact mul_le1 lb ua)
          (refine RunVC.alloc p38 ty24 ?_; intro b1640 m1640 o1640)
          (refine RunVC.storeL o1640 5 rfl ty24 rfl (by decide) (And.intro ⟨rfl, rfl⟩ ?_); intro m1641 o1641)
          refine Br.dec (fun c1642 => ?_) (fun hc => absurd (by omega) hc)
          refine StillVC.run (StillVC.loadON o1641 4 rfl ty24 rfl rfl rfl ?_)
          refine StillVC.run (StillVC.loadON o1641 2 rfl ty24 rfl rfl rfl ?_)
          refine CallVC.ret (cmp_spec (m1, m2) (0, 1) _ (okP_i64 km) (okP_i64 kzero)) ?_
          rintro _ h39 ⟨rfl, oc39⟩
          have p39 := oc39.thenE (by assumption)
          generalize cmpR (m1, m2) (0, 1) = G1 at *
          refine Br.dec (fun hc => absurd hc (by omega)) (fun c1660 => ?_)
          refine StillVC.run (StillVC.loadON p39 4 rfl ty24 rfl rfl rfl ?_)
          refine StillVC.run (StillVC.loadON p39 0 rfl ty24 rfl rfl rfl ?_)
          refine CallVC.ret (cmp_spec (m1, m2) (b1, b2) _ (okP_i64 km) hb) ?_
          rintro _ h40 ⟨rfl, oc40⟩
          have p40 := oc40.thenE (by assumption)
          generalize cmpR (m1, m2) (b1, b2) = G2 at *
          have g3 := (cmpR_ge kq kzero).2 (by rw [qq, e0]; exact (div01 lb hle hne).1)
          have g4 := (cmpR_le kq kone).2 (by rw [qq, e1]; exact (div01 lb hle hne).2)
          refine Br.dec (fun hc => absurd hc (by omega)) (fun c1680 => ?_)
          refine Br.dec (fun c1681 => ?_) (fun hc => absurd (by omega) hc)
          refine StillVC.run (StillVC.loadON p40 5 rfl ty24 rfl rfl rfl ?_)
          refine StillVC.run (StillVC.loadON p40 2 rfl ty24 rfl rfl rfl ?_)
          refine CallVC.ret (cmp_spec (d1, d2) (0, 1) _ (okP_i64 kq) (okP_i64 kzero)) ?_
          rintro _ h41 ⟨rfl, oc41⟩
          have p41 := oc41.thenE (by assumption)
          generalize cmpR (d1, d2) (0, 1) = G3 at *
          refine Br.dec (fun hc => absurd hc (by omega)) (fun c1700 => ?_)
          refine StillVC.run (StillVC.loadON p41 5 rfl ty24 rfl rfl rfl ?_)
          refine StillVC.run (StillVC.loadON p41 3 rfl ty24 rfl rfl rfl ?_)
          refine CallVC.ret (cmp_spec (d1, d2) (1, 1) _ (okP_i64 kq) (okP_i64 kone)) ?_
          rintro _ h42 ⟨rfl, oc42⟩
          have p42 := oc42.thenE (by assumption)
          generalize cmpR (d1, d2) (1, 1) = G4 at *
          refine Br.dec (fun hc => absurd hc (by omega)) (fun c1720 => ?_)
          refine Br.tt ?_
          refine Br.dec (fun c1721 => ?_) (fun hc => absurd (by omega) hc)
          refine Br.dec (fun c1722 => ?_) (fun hc => absurd (by omega) hc)
          refine RetVC.one rfl ?_
          exact ⟨by first | rfl | simp, Own.sel (by assumption) [] rfl⟩
        · skip
          have g3 := (cmpR_ge kq kzero).2 (by rw [qq, e0]; exact (div01 lb hle hne).1)
          have g4 := (cmpR_le kq kone).2 (by rw [qq, e1]; exact (div01 lb hle hne).2)
          (refine RunVC.alloc p38 ty24 ?_; intro b1740 m1740 o1740)
          (refine RunVC.storeL o1740 5 rfl ty24 rfl (by decide) (And.intro ⟨rfl, rfl⟩ ?_); intro m1741 o1741)
          refine Br.ff ?_
          refine Br.dec (fun c1742 => ?_) (fun hc => absurd (by omega) hc)
          refine StillVC.run (StillVC.loadON o1741 5 rfl ty24 rfl rfl rfl ?_)
          refine StillVC.run (StillVC.loadON o1741 2 rfl ty24 rfl rfl rfl ?_)
          refine CallVC.ret (cmp_spec (d1, d2) (0, 1) _ (okP_i64 kq) (okP_i64 kzero)) ?_
          rintro _ h43 ⟨rfl, oc43⟩
          have p43 := oc43.thenE (by assumption)
          generalize cmpR (d1, d2) (0, 1) = G3 at *
          refine Br.dec (fun hc => absurd hc (by omega)) (fun c1760 => ?_)
          refine StillVC.run (StillVC.loadON p43 5 rfl ty24 rfl rfl rfl ?_)
          refine StillVC.run (StillVC.loadON p43 3 rfl ty24 rfl rfl rfl ?_)
          refine CallVC.ret (cmp_spec (d1, d2) (1, 1) _ (okP_i64 kq) (okP_i64 kone)) ?_
          rintro _ h44 ⟨rfl, oc44⟩
          have p44 := oc44.thenE (by assumption)
          generalize cmpR (d1, d2) (1, 1) = G4 at *
          refine Br.dec (fun hc => absurd hc (by omega)) (fun c1780 => ?_)
          refine Br.tt ?_
          refine Br.ff ?_
          refine Br.tt ?_
          refine Br.dec (fun c1781 => ?_) (fun hc => absurd (by omega) hc)
          refine RetVC.one rfl ?_
          exact ⟨by first | rfl | simp, Own.sel (by assumption) [] rfl⟩
      · skip
        rcases hme with ⟨rfl, km, qm⟩ | ⟨rfl, rfl, rfl, _⟩
        · have g1 := (cmpR_ge km kzero).2 (by rw [qm, e0]; exact Rat.mul_nonneg lb (Rat.le_trans lb hle))
          have g2 := (cmpR_le km kb).2 (by rw [qm]; exact mul_le1 lb ua)
          (refine RunVC.alloc p38 ty24 ?_; intro b1800 m1800 o1800)
          (refine RunVC.storeL o1800 5 rfl ty24 rfl (by decide) (And.intro ⟨rfl, rfl⟩ ?_); intro m1801 o1801)
          refine Br.dec (fun c1802 => ?_) (fun hc => absurd (by omega) hc)
          refine StillVC.run (StillVC.loadON o1801 4 rfl ty24 rfl rfl rfl ?_)
          refine StillVC.run (StillVC.loadON o1801 2 rfl ty24 rfl rfl rfl ?_)
          refine CallVC.ret (cmp_spec (m1, m2) (0, 1) _ (okP_i64 km) (okP_i64 kzero)) ?_
          rintro _ h45 ⟨rfl, oc45⟩
          have p45 := oc45.thenE (by assumption)
          generalize cmpR (m1, m2) (0, 1) = G1 at *
          refine Br.dec (fun hc => absurd hc (by omega)) (fun c1820 => ?_)
          refine StillVC.run (StillVC.loadON p45 4 rfl ty24 rfl rfl rfl ?_)
          refine StillVC.run (StillVC.loadON p45 0 rfl ty24 rfl rfl rfl ?_)
          refine CallVC.ret (cmp_spec (m1, m2) (b1, b2) _ (okP_i64 km) hb) ?_
          rintro _ h46 ⟨rfl, oc46⟩
          have p46 := oc46.thenE (by assumption)
          generalize cmpR (m1, m2) (b1, b2) = G2 at *
          refine Br.dec (fun hc => absurd hc (by omega)) (fun c1840 => ?_)
          refine Br.ff ?_
          refine Br.ff ?_
          refine Br.tt ?_
          refine Br.dec (fun c1841 => ?_) (fun hc => absurd (by omega) hc)
          refine Br.ff ?_
          refine Br.tt ?_
          refine RetVC.one rfl ?_
          exact ⟨by first | rfl | simp, Own.sel (by assumption) [] rfl⟩
        · skip
          (refine RunVC.alloc p38 ty24 ?_; intro b1860 m1860 o1860)
          (refine RunVC.storeL o1860 5 rfl ty24 rfl (by decide) (And.intro ⟨rfl, rfl⟩ ?_); intro m1861 o1861)
          refine Br.ff ?_
          refine Br.ff ?_
          refine Br.ff ?_
          refine Br.tt ?_
          refine Br.ff ?_
          refine Br.tt ?_
          refine Br.ff ?_
          refine Br.tt ?_
          refine RetVC.one rfl ?_
          exact ⟨by first | rfl | simp, Own.sel (by assumption) [] rfl⟩

end Go.Proofs.YtemijanhigjmmaaDoor
