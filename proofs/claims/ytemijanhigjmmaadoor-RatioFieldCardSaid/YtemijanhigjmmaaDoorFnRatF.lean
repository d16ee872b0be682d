/-
  The statement RatioField of chapter 1, walked.
-/
import Derived.Test.YtemijanhigjmmaaDoorStructs
import Derived.Test.YtemijanhigjmmaaDoorFnRatHead
namespace Go.Proofs.YtemijanhigjmmaaDoor
open Go

/-- What a calculation in range gives, and what one out of range gives. -/
theorem packR_two (q : Rat) : ∃ x y e, packR q = ((x, y), e) ∧ ((e = 0 ∧ okP (x, y) = true ∧ ofP (x, y) = q) ∨ (e = 2 ∧ x = 0 ∧ y = 0 ∧ ∀ p : Int × Int, okP p = true → ofP p ≠ q)) := by
  rcases packR_cases q with ⟨⟨x, y⟩, h, k, e⟩ | ⟨h, k⟩
  · exact ⟨x, y, 0, h, .inl ⟨rfl, k, e⟩⟩
  · exact ⟨0, 0, 2, h, .inr ⟨rfl, rfl, rfl, k⟩⟩

theorem addR_ok {a b : Int × Int} (ha : okP a = true) (hb : okP b = true) : addR a b = packR (ofP a + ofP b) := if_pos ⟨ha, hb⟩
theorem subR_ok {a b : Int × Int} (ha : okP a = true) (hb : okP b = true) : subR a b = packR (ofP a - ofP b) := if_pos ⟨ha, hb⟩
theorem mulR_ok {a b : Int × Int} (ha : okP a = true) (hb : okP b = true) : mulR a b = packR (ofP a * ofP b) := if_pos ⟨ha, hb⟩
theorem divR_ok {a b : Int × Int} (ha : okP a = true) (hb : okP b = true) (h0 : b.1 ≠ 0) : divR a b = packR (ofP a / ofP b) := by
  unfold divR onR
  rw [if_pos ⟨ha, hb⟩, if_neg h0]

theorem okP_i64 {a : Int × Int} (h : okP a = true) : i64P a := by
  obtain ⟨h1, h2, h3, h4⟩ := okP_rng h
  unfold i64P
  omega

set_option maxHeartbeats 4000000 in
set_option maxRecDepth 100000 in
theorem field_spec (a b c : Int × Int) (h : Heap) (ha : i64P a) (hb : i64P b) (hc : i64P c) (ht : TabH h) (hv : VarH h) :
    SpecR Tryd.prog 8 [ratV a, ratV b, ratV c] h fun v h' => v = .bool true ∧ Own h [] h' := by
  obtain ⟨a1, a2⟩ := a
  obtain ⟨b1, b2⟩ := b
  obtain ⟨c1, c2⟩ := c
  show SpecR Tryd.prog 8 [.agg ⟨[.int .i64 a1, .int .i64 a2]⟩, .agg ⟨[.int .i64 b1, .int .i64 b2]⟩, .agg ⟨[.int .i64 c1, .int .i64 c2]⟩] h _
  refine Spec.enter Tryd.func8 rfl Tryd.ntmps8 (by kernel_rfl) ?_
  have o0 := Own.refl h
  (refine RunVC.boxO o0 rfl ?_; intro b10 m10 o10)
  (refine RunVC.boxO o10 rfl ?_; intro b11 m11 o11)
  (refine RunVC.boxO o11 rfl ?_; intro b12 m12 o12)
  refine CallVC.ret (head_spec _ (ht.ext (Own.ext (by assumption))) (hv.ext (Own.ext (by assumption)))) ?_
  rintro _ h1 ⟨rfl, oc1⟩
  have p1 := oc1.thenE (by assumption)
  refine StillVC.run (StillVC.loadON p1 0 rfl ty24 rfl rfl rfl ?_)
  refine CallVC.ret (valid_spec (a1, a2) _ ha) ?_
  rintro _ h2 ⟨rfl, oc2⟩
  have p2 := oc2.thenE (by assumption)
  cases ka : okP (a1, a2) with
  | false =>
    refine Br.tt ?_
    refine Br.tt ?_
    refine RetVC.one rfl ?_
    exact ⟨rfl, Own.sel (by assumption) [] rfl⟩
  | true =>
  refine Br.ff ?_
  refine StillVC.run (StillVC.loadON p2 1 rfl ty24 rfl rfl rfl ?_)
  refine CallVC.ret (valid_spec (b1, b2) _ hb) ?_
  rintro _ h3 ⟨rfl, oc3⟩
  have p3 := oc3.thenE (by assumption)
  cases kb : okP (b1, b2) with
  | false =>
    refine Br.tt ?_
    refine Br.tt ?_
    refine RetVC.one rfl ?_
    exact ⟨rfl, Own.sel (by assumption) [] rfl⟩
  | true =>
  refine Br.ff ?_
  refine StillVC.run (StillVC.loadON p3 2 rfl ty24 rfl rfl rfl ?_)
  refine CallVC.ret (valid_spec (c1, c2) _ hc) ?_
  rintro _ h4 ⟨rfl, oc4⟩
  have p4 := oc4.thenE (by assumption)
  cases kc : okP (c1, c2) with
  | false =>
    refine Br.tt ?_
    refine RetVC.one rfl ?_
    exact ⟨rfl, Own.sel (by assumption) [] rfl⟩
  | true =>
  refine Br.ff ?_
  refine StillVC.run (StillVC.loadON p4 0 rfl ty24 rfl rfl rfl ?_)
  refine StillVC.run (StillVC.loadON p4 1 rfl ty24 rfl rfl rfl ?_)
  refine CallVC.ret (add_spec (a1, a2) (b1, b2) _ ha hb) ?_
  rintro _ h5 ⟨rfl, oc5⟩
  have p5 := oc5.thenE (by assumption)
  obtain ⟨s1, s2, e, hs, hse⟩ := packR_two (ofP (a1, a2) + ofP (b1, b2))
  rw [addR_ok ka kb, hs]
  (refine RunVC.alloc p5 ty24 ?_; intro b90 m90 o90)
  (refine RunVC.storeL o90 3 rfl ty24 rfl (by decide) (And.intro ⟨rfl, rfl⟩ ?_); intro m91 o91)
  refine StillVC.run (StillVC.loadON o91 1 rfl ty24 rfl rfl rfl ?_)
  refine StillVC.run (StillVC.loadON o91 0 rfl ty24 rfl rfl rfl ?_)
  refine CallVC.ret (add_spec (b1, b2) (a1, a2) _ hb ha) ?_
  rintro _ h6 ⟨rfl, oc6⟩
  have p6 := oc6.thenE (by assumption)
  rw [addR_ok kb ka, Rat.add_comm, hs]
  (refine RunVC.alloc p6 ty24 ?_; intro b100 m100 o100)
  (refine RunVC.storeL o100 4 rfl ty24 rfl (by decide) (And.intro ⟨rfl, rfl⟩ ?_); intro m101 o101)
  refine StillVC.run (StillVC.loadON o101 0 rfl ty24 rfl rfl rfl ?_)
  refine StillVC.run (StillVC.loadON o101 1 rfl ty24 rfl rfl rfl ?_)
  refine CallVC.ret (mul_spec (a1, a2) (b1, b2) _ ha hb) ?_
  rintro _ h7 ⟨rfl, oc7⟩
  have p7 := oc7.thenE (by assumption)
  obtain ⟨m1, m2, g, hm, hmg⟩ := packR_two (ofP (a1, a2) * ofP (b1, b2))
  rw [mulR_ok ka kb, hm]
  (refine RunVC.alloc p7 ty24 ?_; intro b110 m110 o110)
  (refine RunVC.storeL o110 5 rfl ty24 rfl (by decide) (And.intro ⟨rfl, rfl⟩ ?_); intro m111 o111)
  refine StillVC.run (StillVC.loadON o111 1 rfl ty24 rfl rfl rfl ?_)
  refine StillVC.run (StillVC.loadON o111 0 rfl ty24 rfl rfl rfl ?_)
  refine CallVC.ret (mul_spec (b1, b2) (a1, a2) _ hb ha) ?_
  rintro _ h8 ⟨rfl, oc8⟩
  have p8 := oc8.thenE (by assumption)
  rw [mulR_ok kb ka, Rat.mul_comm, hm]
  generalize qa : ofP (a1, a2) = A at *
  generalize qb : ofP (b1, b2) = B at *
  generalize qc : ofP (c1, c2) = C at *
  (refine RunVC.alloc p8 ty24 ?_; intro b120 m120 o120)
  (refine RunVC.storeL o120 6 rfl ty24 rfl (by decide) (And.intro ⟨rfl, rfl⟩ ?_); intro m121 o121)
  refine StillVC.run (StillVC.loadON o121 3 rfl ty24 rfl rfl rfl ?_)
  refine StillVC.run (StillVC.loadON o121 4 rfl ty24 rfl rfl rfl ?_)
  refine StillVC.run (StillVC.neS pl24 rfl rfl rfl rfl ?_)
  refine Br.ffE (by first | omega | (simp; done)) ?_
  refine Br.ndec (fun hc => absurd (by first | omega | assumption | decide | exact rfl) hc) (fun c126 => ?_)
  refine StillVC.run (StillVC.loadON o121 5 rfl ty24 rfl rfl rfl ?_)
  refine StillVC.run (StillVC.loadON o121 6 rfl ty24 rfl rfl rfl ?_)
  refine StillVC.run (StillVC.neS pl24 rfl rfl rfl rfl ?_)
  refine Br.ffE (by first | omega | (simp; done)) ?_
  refine Br.ndec (fun hc => absurd (by first | omega | assumption | decide | exact rfl) hc) (fun c131 => ?_)
  refine Br.joinO [6, 16, 17, 97, 98, 99, 100, 101, 102, 103, 104, 105, 106, 107, 108, 109] o121 rfl rfl (fun _ => ?_) ?_
  · refine Br.dec (fun c200 => ?_) (fun c200 => ?_)
    refine StillVC.run (StillVC.loadON o121 3 rfl ty24 rfl rfl rfl ?_)
    refine StillVC.run (StillVC.loadON o121 1 rfl ty24 rfl rfl rfl ?_)
    rotate_left
    refine ⟨rfl, ?_⟩
    · exact Own.sel (by assumption) [0, 1, 2, 3, 4, 5, 6] rfl
    · rcases hse with ⟨_, ks, qs⟩ | ⟨h2, _⟩
      · refine CallVC.ret (sub_spec (s1, s2) (b1, b2) _ (okP_i64 ks) hb) ?_
        rintro _ h9 ⟨rfl, oc9⟩
        have p9 := oc9.thenE (by assumption)
        rw [subR_ok ks kb, qs, qb, show A + B - B = ofP (a1, a2) by rw [qa]; grind, packR_ofP ka]
        (refine RunVC.alloc p9 ty24 ?_; intro b210 m210 o210)
        (refine RunVC.storeL o210 7 rfl ty24 rfl (by decide) (And.intro ⟨rfl, rfl⟩ ?_); intro m211 o211)
        refine StillVC.run (StillVC.loadON o211 7 rfl ty24 rfl rfl rfl ?_)
        refine StillVC.run (StillVC.loadON o211 0 rfl ty24 rfl rfl rfl ?_)
        refine StillVC.run (StillVC.neS pl24 rfl rfl rfl rfl ?_)
        refine Br.ffE (by first | omega | (simp; done)) ?_
        refine Br.ndec (fun hc => absurd (by first | omega | assumption | decide | exact rfl) hc) (fun c216 => ?_)
        refine ⟨rfl, ?_⟩
        exact Own.sel (by assumption) [0, 1, 2, 3, 4, 5, 6] rfl
      · exact absurd ‹((s1, s2), e).snd = 0› (by subst h2; simp)
  · intro junk h9 p9
    obtain ⟨u1, u2, i, hu, hui⟩ := packR_two (B + C)
    obtain ⟨w1, w2, j, hw, hwj⟩ := packR_two (B * C)
    obtain ⟨z1, z2, k, hz, hzk⟩ := packR_two (A * C)
    rcases hse with ⟨rfl, ks, qs⟩ | ⟨rfl, rfl, rfl, _⟩
    · rcases hmg with ⟨rfl, km, qm⟩ | ⟨rfl, rfl, rfl, _⟩
      · by_cases hb0 : b1 = 0
        · skip
          refine Br.dec (fun c420 => ?_) (fun hc => absurd (by omega) hc)
          refine StillVC.run (StillVC.fieldAddr st24 rfl rfl rfl ?_)
          refine StillVC.run (StillVC.loadO p9 1 rfl ty3 rfl rfl ?_)
          refine Br.ndec (fun hc => absurd (by first | omega | assumption | decide | exact rfl) hc) (fun c423 => ?_)
          refine StillVC.run (StillVC.loadON p9 1 rfl ty24 rfl rfl rfl ?_)
          refine StillVC.run (StillVC.loadON p9 2 rfl ty24 rfl rfl rfl ?_)
          refine CallVC.ret (add_spec (b1, b2) (c1, c2) _ hb hc) ?_
          rintro _ h21 ⟨rfl, oc21⟩
          have p21 := oc21.thenE (by assumption)
          rw [addR_ok kb kc, qb, qc, hu]
          (refine RunVC.alloc p21 ty24 ?_; intro b440 m440 o440)
          (refine RunVC.storeL o440 7 rfl ty24 rfl (by decide) (And.intro ⟨rfl, rfl⟩ ?_); intro m441 o441)
          refine StillVC.run (StillVC.loadON o441 1 rfl ty24 rfl rfl rfl ?_)
          refine StillVC.run (StillVC.loadON o441 2 rfl ty24 rfl rfl rfl ?_)
          refine CallVC.ret (mul_spec (b1, b2) (c1, c2) _ hb hc) ?_
          rintro _ h22 ⟨rfl, oc22⟩
          have p22 := oc22.thenE (by assumption)
          rw [mulR_ok kb kc, qb, qc, hw]
          (refine RunVC.alloc p22 ty24 ?_; intro b460 m460 o460)
          (refine RunVC.storeL o460 8 rfl ty24 rfl (by decide) (And.intro ⟨rfl, rfl⟩ ?_); intro m461 o461)
          refine StillVC.run (StillVC.loadON o461 0 rfl ty24 rfl rfl rfl ?_)
          refine StillVC.run (StillVC.loadON o461 2 rfl ty24 rfl rfl rfl ?_)
          refine CallVC.ret (mul_spec (a1, a2) (c1, c2) _ ha hc) ?_
          rintro _ h23 ⟨rfl, oc23⟩
          have p23 := oc23.thenE (by assumption)
          rw [mulR_ok ka kc, qa, qc, hz]
          rcases hui with ⟨rfl, ku, qu⟩ | ⟨rfl, rfl, rfl, _⟩
          · skip
            rcases hwj with ⟨rfl, kw, qw⟩ | ⟨rfl, rfl, rfl, _⟩
            · skip
              rcases hzk with ⟨rfl, kz, qz⟩ | ⟨rfl, rfl, rfl, _⟩
              · skip
                obtain ⟨x24, y24, l24, hx24, _⟩ := packR_two (A + (B + C))
                (refine RunVC.alloc p23 ty24 ?_; intro b480 m480 o480)
                (refine RunVC.storeL o480 9 rfl ty24 rfl (by decide) (And.intro ⟨rfl, rfl⟩ ?_); intro m481 o481)
                refine Br.dec (fun c482 => ?_) (fun hc => absurd (by omega) hc)
                refine Br.dec (fun c483 => ?_) (fun hc => absurd (by omega) hc)
                refine StillVC.run (StillVC.loadON o481 3 rfl ty24 rfl rfl rfl ?_)
                refine StillVC.run (StillVC.loadON o481 2 rfl ty24 rfl rfl rfl ?_)
                refine CallVC.ret (add_spec (s1, s2) (c1, c2) _ (okP_i64 ks) hc) ?_
                rintro _ h25 ⟨rfl, oc25⟩
                have p25 := oc25.thenE (by assumption)
                rw [addR_ok ks kc, qs, qc, show A + B + C = A + (B + C) by grind, hx24]
                (refine RunVC.alloc p25 ty24 ?_; intro b500 m500 o500)
                (refine RunVC.storeL o500 10 rfl ty24 rfl (by decide) (And.intro ⟨rfl, rfl⟩ ?_); intro m501 o501)
                refine StillVC.run (StillVC.loadON o501 0 rfl ty24 rfl rfl rfl ?_)
                refine StillVC.run (StillVC.loadON o501 7 rfl ty24 rfl rfl rfl ?_)
                refine CallVC.ret (add_spec (a1, a2) (u1, u2) _ ha (okP_i64 ku)) ?_
                rintro _ h26 ⟨rfl, oc26⟩
                have p26 := oc26.thenE (by assumption)
                rw [addR_ok ka ku, qa, qu, hx24]
                obtain ⟨x27, y27, l27, hx27, _⟩ := packR_two (A * (B * C))
                (refine RunVC.alloc p26 ty24 ?_; intro b520 m520 o520)
                (refine RunVC.storeL o520 11 rfl ty24 rfl (by decide) (And.intro ⟨rfl, rfl⟩ ?_); intro m521 o521)
                refine StillVC.run (StillVC.loadON o521 10 rfl ty24 rfl rfl rfl ?_)
                refine StillVC.run (StillVC.loadON o521 11 rfl ty24 rfl rfl rfl ?_)
                refine StillVC.run (StillVC.neS pl24 rfl rfl rfl rfl ?_)
                refine Br.ffE (by first | omega | (simp; done)) ?_
                refine Br.ndec (fun hc => absurd (by first | omega | assumption | decide | exact rfl) hc) (fun c526 => ?_)
                refine Br.dec (fun c527 => ?_) (fun hc => absurd (by omega) hc)
                refine Br.dec (fun c528 => ?_) (fun hc => absurd (by omega) hc)
                refine StillVC.run (StillVC.loadON o521 5 rfl ty24 rfl rfl rfl ?_)
                refine StillVC.run (StillVC.loadON o521 2 rfl ty24 rfl rfl rfl ?_)
                refine CallVC.ret (mul_spec (m1, m2) (c1, c2) _ (okP_i64 km) hc) ?_
                rintro _ h28 ⟨rfl, oc28⟩
                have p28 := oc28.thenE (by assumption)
                rw [mulR_ok km kc, qm, qc, show A * B * C = A * (B * C) by grind, hx27]
                (refine RunVC.alloc p28 ty24 ?_; intro b540 m540 o540)
                (refine RunVC.storeL o540 12 rfl ty24 rfl (by decide) (And.intro ⟨rfl, rfl⟩ ?_); intro m541 o541)
                refine StillVC.run (StillVC.loadON o541 0 rfl ty24 rfl rfl rfl ?_)
                refine StillVC.run (StillVC.loadON o541 8 rfl ty24 rfl rfl rfl ?_)
                refine CallVC.ret (mul_spec (a1, a2) (w1, w2) _ ha (okP_i64 kw)) ?_
                rintro _ h29 ⟨rfl, oc29⟩
                have p29 := oc29.thenE (by assumption)
                rw [mulR_ok ka kw, qa, qw, hx27]
                obtain ⟨x30, y30, l30, hx30, _⟩ := packR_two (A * B + A * C)
                (refine RunVC.alloc p29 ty24 ?_; intro b560 m560 o560)
                (refine RunVC.storeL o560 13 rfl ty24 rfl (by decide) (And.intro ⟨rfl, rfl⟩ ?_); intro m561 o561)
                refine StillVC.run (StillVC.loadON o561 12 rfl ty24 rfl rfl rfl ?_)
                refine StillVC.run (StillVC.loadON o561 13 rfl ty24 rfl rfl rfl ?_)
                refine StillVC.run (StillVC.neS pl24 rfl rfl rfl rfl ?_)
                refine Br.ffE (by first | omega | (simp; done)) ?_
                refine Br.ndec (fun hc => absurd (by first | omega | assumption | decide | exact rfl) hc) (fun c566 => ?_)
                refine Br.dec (fun c567 => ?_) (fun hc => absurd (by omega) hc)
                refine Br.dec (fun c568 => ?_) (fun hc => absurd (by omega) hc)
                refine Br.dec (fun c569 => ?_) (fun hc => absurd (by omega) hc)
                refine StillVC.run (StillVC.loadON o561 0 rfl ty24 rfl rfl rfl ?_)
                refine StillVC.run (StillVC.loadON o561 7 rfl ty24 rfl rfl rfl ?_)
                refine CallVC.ret (mul_spec (a1, a2) (u1, u2) _ ha (okP_i64 ku)) ?_
                rintro _ h31 ⟨rfl, oc31⟩
                have p31 := oc31.thenE (by assumption)
                rw [mulR_ok ka ku, qa, qu, show A * (B + C) = A * B + A * C by grind, hx30]
                (refine RunVC.alloc p31 ty24 ?_; intro b580 m580 o580)
                (refine RunVC.storeL o580 14 rfl ty24 rfl (by decide) (And.intro ⟨rfl, rfl⟩ ?_); intro m581 o581)
                refine StillVC.run (StillVC.loadON o581 5 rfl ty24 rfl rfl rfl ?_)
                refine StillVC.run (StillVC.loadON o581 9 rfl ty24 rfl rfl rfl ?_)
                refine CallVC.ret (add_spec (m1, m2) (z1, z2) _ (okP_i64 km) (okP_i64 kz)) ?_
                rintro _ h32 ⟨rfl, oc32⟩
                have p32 := oc32.thenE (by assumption)
                rw [addR_ok km kz, qm, qz, hx30]
                (refine RunVC.alloc p32 ty24 ?_; intro b600 m600 o600)
                (refine RunVC.storeL o600 15 rfl ty24 rfl (by decide) (And.intro ⟨rfl, rfl⟩ ?_); intro m601 o601)
                refine Br.tt ?_
                refine StillVC.run (StillVC.loadON o601 14 rfl ty24 rfl rfl rfl ?_)
                refine StillVC.run (StillVC.loadON o601 15 rfl ty24 rfl rfl rfl ?_)
                refine StillVC.run (StillVC.eqS pl24 rfl rfl rfl rfl ?_)
                refine Br.ttE (by first | omega | (simp; done)) ?_
                refine RetVC.one rfl ?_
                exact ⟨by first | rfl | simp, Own.sel (by assumption) [] rfl⟩
              · skip
                obtain ⟨x33, y33, l33, hx33, _⟩ := packR_two (A + (B + C))
                (refine RunVC.alloc p23 ty24 ?_; intro b620 m620 o620)
                (refine RunVC.storeL o620 9 rfl ty24 rfl (by decide) (And.intro ⟨rfl, rfl⟩ ?_); intro m621 o621)
                refine Br.dec (fun c622 => ?_) (fun hc => absurd (by omega) hc)
                refine Br.dec (fun c623 => ?_) (fun hc => absurd (by omega) hc)
                refine StillVC.run (StillVC.loadON o621 3 rfl ty24 rfl rfl rfl ?_)
                refine StillVC.run (StillVC.loadON o621 2 rfl ty24 rfl rfl rfl ?_)
                refine CallVC.ret (add_spec (s1, s2) (c1, c2) _ (okP_i64 ks) hc) ?_
                rintro _ h34 ⟨rfl, oc34⟩
                have p34 := oc34.thenE (by assumption)
                rw [addR_ok ks kc, qs, qc, show A + B + C = A + (B + C) by grind, hx33]
                (refine RunVC.alloc p34 ty24 ?_; intro b640 m640 o640)
                (refine RunVC.storeL o640 10 rfl ty24 rfl (by decide) (And.intro ⟨rfl, rfl⟩ ?_); intro m641 o641)
                refine StillVC.run (StillVC.loadON o641 0 rfl ty24 rfl rfl rfl ?_)
                refine StillVC.run (StillVC.loadON o641 7 rfl ty24 rfl rfl rfl ?_)
                refine CallVC.ret (add_spec (a1, a2) (u1, u2) _ ha (okP_i64 ku)) ?_
                rintro _ h35 ⟨rfl, oc35⟩
                have p35 := oc35.thenE (by assumption)
                rw [addR_ok ka ku, qa, qu, hx33]
                obtain ⟨x36, y36, l36, hx36, _⟩ := packR_two (A * (B * C))
                (refine RunVC.alloc p35 ty24 ?_; intro b660 m660 o660)
                (refine RunVC.storeL o660 11 rfl ty24 rfl (by decide) (And.intro ⟨rfl, rfl⟩ ?_); intro m661 o661)
                refine StillVC.run (StillVC.loadON o661 10 rfl ty24 rfl rfl rfl ?_)
                refine StillVC.run (StillVC.loadON o661 11 rfl ty24 rfl rfl rfl ?_)
                refine StillVC.run (StillVC.neS pl24 rfl rfl rfl rfl ?_)
                refine Br.ffE (by first | omega | (simp; done)) ?_
                refine Br.ndec (fun hc => absurd (by first | omega | assumption | decide | exact rfl) hc) (fun c666 => ?_)
                refine Br.dec (fun c667 => ?_) (fun hc => absurd (by omega) hc)
                refine Br.dec (fun c668 => ?_) (fun hc => absurd (by omega) hc)
                refine StillVC.run (StillVC.loadON o661 5 rfl ty24 rfl rfl rfl ?_)
                refine StillVC.run (StillVC.loadON o661 2 rfl ty24 rfl rfl rfl ?_)
                refine CallVC.ret (mul_spec (m1, m2) (c1, c2) _ (okP_i64 km) hc) ?_
                rintro _ h37 ⟨rfl, oc37⟩
                have p37 := oc37.thenE (by assumption)
                rw [mulR_ok km kc, qm, qc, show A * B * C = A * (B * C) by grind, hx36]
                (refine RunVC.alloc p37 ty24 ?_; intro b680 m680 o680)
                (refine RunVC.storeL o680 12 rfl ty24 rfl (by decide) (And.intro ⟨rfl, rfl⟩ ?_); intro m681 o681)
                refine StillVC.run (StillVC.loadON o681 0 rfl ty24 rfl rfl rfl ?_)
                refine StillVC.run (StillVC.loadON o681 8 rfl ty24 rfl rfl rfl ?_)
                refine CallVC.ret (mul_spec (a1, a2) (w1, w2) _ ha (okP_i64 kw)) ?_
                rintro _ h38 ⟨rfl, oc38⟩
                have p38 := oc38.thenE (by assumption)
                rw [mulR_ok ka kw, qa, qw, hx36]
                (refine RunVC.alloc p38 ty24 ?_; intro b700 m700 o700)
                (refine RunVC.storeL o700 13 rfl ty24 rfl (by decide) (And.intro ⟨rfl, rfl⟩ ?_); intro m701 o701)
                refine StillVC.run (StillVC.loadON o701 12 rfl ty24 rfl rfl rfl ?_)
                refine StillVC.run (StillVC.loadON o701 13 rfl ty24 rfl rfl rfl ?_)
                refine StillVC.run (StillVC.neS pl24 rfl rfl rfl rfl ?_)
                refine Br.ffE (by first | omega | (simp; done)) ?_
                refine Br.ndec (fun hc => absurd (by first | omega | assumption | decide | exact rfl) hc) (fun c706 => ?_)
                refine Br.dec (fun c707 => ?_) (fun hc => absurd (by omega) hc)
                refine Br.dec (fun c708 => ?_) (fun hc => absurd (by omega) hc)
                refine Br.ff ?_
                refine RetVC.one rfl ?_
                exact ⟨by first | rfl | simp, Own.sel (by assumption) [] rfl⟩
            · skip
              rcases hzk with ⟨rfl, kz, qz⟩ | ⟨rfl, rfl, rfl, _⟩
              · skip
                obtain ⟨x39, y39, l39, hx39, _⟩ := packR_two (A + (B + C))
                (refine RunVC.alloc p23 ty24 ?_; intro b720 m720 o720)
                (refine RunVC.storeL o720 9 rfl ty24 rfl (by decide) (And.intro ⟨rfl, rfl⟩ ?_); intro m721 o721)
                refine Br.dec (fun c722 => ?_) (fun hc => absurd (by omega) hc)
                refine Br.dec (fun c723 => ?_) (fun hc => absurd (by omega) hc)
                refine StillVC.run (StillVC.loadON o721 3 rfl ty24 rfl rfl rfl ?_)
                refine StillVC.run (StillVC.loadON o721 2 rfl ty24 rfl rfl rfl ?_)
                refine CallVC.ret (add_spec (s1, s2) (c1, c2) _ (okP_i64 ks) hc) ?_
                rintro _ h40 ⟨rfl, oc40⟩
                have p40 := oc40.thenE (by assumption)
                rw [addR_ok ks kc, qs, qc, show A + B + C = A + (B + C) by grind, hx39]
                (refine RunVC.alloc p40 ty24 ?_; intro b740 m740 o740)
                (refine RunVC.storeL o740 10 rfl ty24 rfl (by decide) (And.intro ⟨rfl, rfl⟩ ?_); intro m741 o741)
                refine StillVC.run (StillVC.loadON o741 0 rfl ty24 rfl rfl rfl ?_)
                refine StillVC.run (StillVC.loadON o741 7 rfl ty24 rfl rfl rfl ?_)
                refine CallVC.ret (add_spec (a1, a2) (u1, u2) _ ha (okP_i64 ku)) ?_
                rintro _ h41 ⟨rfl, oc41⟩
                have p41 := oc41.thenE (by assumption)
                rw [addR_ok ka ku, qa, qu, hx39]
                obtain ⟨x42, y42, l42, hx42, _⟩ := packR_two (A * B + A * C)
                (refine RunVC.alloc p41 ty24 ?_; intro b760 m760 o760)
                (refine RunVC.storeL o760 11 rfl ty24 rfl (by decide) (And.intro ⟨rfl, rfl⟩ ?_); intro m761 o761)
                refine StillVC.run (StillVC.loadON o761 10 rfl ty24 rfl rfl rfl ?_)
                refine StillVC.run (StillVC.loadON o761 11 rfl ty24 rfl rfl rfl ?_)
                refine StillVC.run (StillVC.neS pl24 rfl rfl rfl rfl ?_)
                refine Br.ffE (by first | omega | (simp; done)) ?_
                refine Br.ndec (fun hc => absurd (by first | omega | assumption | decide | exact rfl) hc) (fun c766 => ?_)
                refine Br.dec (fun c767 => ?_) (fun hc => absurd (by omega) hc)
                refine Br.ff ?_
                refine Br.dec (fun c768 => ?_) (fun hc => absurd (by omega) hc)
                refine Br.dec (fun c769 => ?_) (fun hc => absurd (by omega) hc)
                refine Br.dec (fun c770 => ?_) (fun hc => absurd (by omega) hc)
                refine StillVC.run (StillVC.loadON o761 0 rfl ty24 rfl rfl rfl ?_)
                refine StillVC.run (StillVC.loadON o761 7 rfl ty24 rfl rfl rfl ?_)
                refine CallVC.ret (mul_spec (a1, a2) (u1, u2) _ ha (okP_i64 ku)) ?_
                rintro _ h43 ⟨rfl, oc43⟩
                have p43 := oc43.thenE (by assumption)
                rw [mulR_ok ka ku, qa, qu, show A * (B + C) = A * B + A * C by grind, hx42]
                (refine RunVC.alloc p43 ty24 ?_; intro b780 m780 o780)
                (refine RunVC.storeL o780 12 rfl ty24 rfl (by decide) (And.intro ⟨rfl, rfl⟩ ?_); intro m781 o781)
                refine StillVC.run (StillVC.loadON o781 5 rfl ty24 rfl rfl rfl ?_)
                refine StillVC.run (StillVC.loadON o781 9 rfl ty24 rfl rfl rfl ?_)
                refine CallVC.ret (add_spec (m1, m2) (z1, z2) _ (okP_i64 km) (okP_i64 kz)) ?_
                rintro _ h44 ⟨rfl, oc44⟩
                have p44 := oc44.thenE (by assumption)
                rw [addR_ok km kz, qm, qz, hx42]
                (refine RunVC.alloc p44 ty24 ?_; intro b800 m800 o800)
                (refine RunVC.storeL o800 13 rfl ty24 rfl (by decide) (And.intro ⟨rfl, rfl⟩ ?_); intro m801 o801)
                refine Br.tt ?_
                refine StillVC.run (StillVC.loadON o801 12 rfl ty24 rfl rfl rfl ?_)
                refine StillVC.run (StillVC.loadON o801 13 rfl ty24 rfl rfl rfl ?_)
                refine StillVC.run (StillVC.eqS pl24 rfl rfl rfl rfl ?_)
                refine Br.ttE (by first | omega | (simp; done)) ?_
                refine RetVC.one rfl ?_
                exact ⟨by first | rfl | simp, Own.sel (by assumption) [] rfl⟩
              · skip
                obtain ⟨x45, y45, l45, hx45, _⟩ := packR_two (A + (B + C))
                (refine RunVC.alloc p23 ty24 ?_; intro b820 m820 o820)
                (refine RunVC.storeL o820 9 rfl ty24 rfl (by decide) (And.intro ⟨rfl, rfl⟩ ?_); intro m821 o821)
                refine Br.dec (fun c822 => ?_) (fun hc => absurd (by omega) hc)
                refine Br.dec (fun c823 => ?_) (fun hc => absurd (by omega) hc)
                refine StillVC.run (StillVC.loadON o821 3 rfl ty24 rfl rfl rfl ?_)
                refine StillVC.run (StillVC.loadON o821 2 rfl ty24 rfl rfl rfl ?_)
                refine CallVC.ret (add_spec (s1, s2) (c1, c2) _ (okP_i64 ks) hc) ?_
                rintro _ h46 ⟨rfl, oc46⟩
                have p46 := oc46.thenE (by assumption)
                rw [addR_ok ks kc, qs, qc, show A + B + C = A + (B + C) by grind, hx45]
                (refine RunVC.alloc p46 ty24 ?_; intro b840 m840 o840)
                (refine RunVC.storeL o840 10 rfl ty24 rfl (by decide) (And.intro ⟨rfl, rfl⟩ ?_); intro m841 o841)
                refine StillVC.run (StillVC.loadON o841 0 rfl ty24 rfl rfl rfl ?_)
                refine StillVC.run (StillVC.loadON o841 7 rfl ty24 rfl rfl rfl ?_)
                refine CallVC.ret (add_spec (a1, a2) (u1, u2) _ ha (okP_i64 ku)) ?_
                rintro _ h47 ⟨rfl, oc47⟩
                have p47 := oc47.thenE (by assumption)
                rw [addR_ok ka ku, qa, qu, hx45]
                (refine RunVC.alloc p47 ty24 ?_; intro b860 m860 o860)
                (refine RunVC.storeL o860 11 rfl ty24 rfl (by decide) (And.intro ⟨rfl, rfl⟩ ?_); intro m861 o861)
                refine StillVC.run (StillVC.loadON o861 10 rfl ty24 rfl rfl rfl ?_)
                refine StillVC.run (StillVC.loadON o861 11 rfl ty24 rfl rfl rfl ?_)
                refine StillVC.run (StillVC.neS pl24 rfl rfl rfl rfl ?_)
                refine Br.ffE (by first | omega | (simp; done)) ?_
                refine Br.ndec (fun hc => absurd (by first | omega | assumption | decide | exact rfl) hc) (fun c866 => ?_)
                refine Br.dec (fun c867 => ?_) (fun hc => absurd (by omega) hc)
                refine Br.ff ?_
                refine Br.dec (fun c868 => ?_) (fun hc => absurd (by omega) hc)
                refine Br.dec (fun c869 => ?_) (fun hc => absurd (by omega) hc)
                refine Br.ff ?_
                refine RetVC.one rfl ?_
                exact ⟨by first | rfl | simp, Own.sel (by assumption) [] rfl⟩
          · skip
            rcases hwj with ⟨rfl, kw, qw⟩ | ⟨rfl, rfl, rfl, _⟩
            · skip
              rcases hzk with ⟨rfl, kz, qz⟩ | ⟨rfl, rfl, rfl, _⟩
              · skip
                obtain ⟨x48, y48, l48, hx48, _⟩ := packR_two (A * (B * C))
                (refine RunVC.alloc p23 ty24 ?_; intro b880 m880 o880)
                (refine RunVC.storeL o880 9 rfl ty24 rfl (by decide) (And.intro ⟨rfl, rfl⟩ ?_); intro m881 o881)
                refine Br.dec (fun c882 => ?_) (fun hc => absurd (by omega) hc)
                refine Br.ff ?_
                refine Br.dec (fun c883 => ?_) (fun hc => absurd (by omega) hc)
                refine Br.dec (fun c884 => ?_) (fun hc => absurd (by omega) hc)
                refine StillVC.run (StillVC.loadON o881 5 rfl ty24 rfl rfl rfl ?_)
                refine StillVC.run (StillVC.loadON o881 2 rfl ty24 rfl rfl rfl ?_)
                refine CallVC.ret (mul_spec (m1, m2) (c1, c2) _ (okP_i64 km) hc) ?_
                rintro _ h49 ⟨rfl, oc49⟩
                have p49 := oc49.thenE (by assumption)
                rw [mulR_ok km kc, qm, qc, show A * B * C = A * (B * C) by grind, hx48]
                (refine RunVC.alloc p49 ty24 ?_; intro b900 m900 o900)
                (refine RunVC.storeL o900 10 rfl ty24 rfl (by decide) (And.intro ⟨rfl, rfl⟩ ?_); intro m901 o901)
                refine StillVC.run (StillVC.loadON o901 0 rfl ty24 rfl rfl rfl ?_)
                refine StillVC.run (StillVC.loadON o901 8 rfl ty24 rfl rfl rfl ?_)
                refine CallVC.ret (mul_spec (a1, a2) (w1, w2) _ ha (okP_i64 kw)) ?_
                rintro _ h50 ⟨rfl, oc50⟩
                have p50 := oc50.thenE (by assumption)
                rw [mulR_ok ka kw, qa, qw, hx48]
                (refine RunVC.alloc p50 ty24 ?_; intro b920 m920 o920)
                (refine RunVC.storeL o920 11 rfl ty24 rfl (by decide) (And.intro ⟨rfl, rfl⟩ ?_); intro m921 o921)
                refine StillVC.run (StillVC.loadON o921 10 rfl ty24 rfl rfl rfl ?_)
                refine StillVC.run (StillVC.loadON o921 11 rfl ty24 rfl rfl rfl ?_)
                refine StillVC.run (StillVC.neS pl24 rfl rfl rfl rfl ?_)
                refine Br.ffE (by first | omega | (simp; done)) ?_
                refine Br.ndec (fun hc => absurd (by first | omega | assumption | decide | exact rfl) hc) (fun c926 => ?_)
                refine Br.dec (fun c927 => ?_) (fun hc => absurd (by omega) hc)
                refine Br.ff ?_
                refine Br.ff ?_
                refine RetVC.one rfl ?_
                exact ⟨by first | rfl | simp, Own.sel (by assumption) [] rfl⟩
              · skip
                obtain ⟨x51, y51, l51, hx51, _⟩ := packR_two (A * (B * C))
                (refine RunVC.alloc p23 ty24 ?_; intro b940 m940 o940)
                (refine RunVC.storeL o940 9 rfl ty24 rfl (by decide) (And.intro ⟨rfl, rfl⟩ ?_); intro m941 o941)
                refine Br.dec (fun c942 => ?_) (fun hc => absurd (by omega) hc)
                refine Br.ff ?_
                refine Br.dec (fun c943 => ?_) (fun hc => absurd (by omega) hc)
                refine Br.dec (fun c944 => ?_) (fun hc => absurd (by omega) hc)
                refine StillVC.run (StillVC.loadON o941 5 rfl ty24 rfl rfl rfl ?_)
                refine StillVC.run (StillVC.loadON o941 2 rfl ty24 rfl rfl rfl ?_)
                refine CallVC.ret (mul_spec (m1, m2) (c1, c2) _ (okP_i64 km) hc) ?_
                rintro _ h52 ⟨rfl, oc52⟩
                have p52 := oc52.thenE (by assumption)
                rw [mulR_ok km kc, qm, qc, show A * B * C = A * (B * C) by grind, hx51]
                (refine RunVC.alloc p52 ty24 ?_; intro b960 m960 o960)
                (refine RunVC.storeL o960 10 rfl ty24 rfl (by decide) (And.intro ⟨rfl, rfl⟩ ?_); intro m961 o961)
                refine StillVC.run (StillVC.loadON o961 0 rfl ty24 rfl rfl rfl ?_)
                refine StillVC.run (StillVC.loadON o961 8 rfl ty24 rfl rfl rfl ?_)
                refine CallVC.ret (mul_spec (a1, a2) (w1, w2) _ ha (okP_i64 kw)) ?_
                rintro _ h53 ⟨rfl, oc53⟩
                have p53 := oc53.thenE (by assumption)
                rw [mulR_ok ka kw, qa, qw, hx51]
                (refine RunVC.alloc p53 ty24 ?_; intro b980 m980 o980)
                (refine RunVC.storeL o980 11 rfl ty24 rfl (by decide) (And.intro ⟨rfl, rfl⟩ ?_); intro m981 o981)
                refine StillVC.run (StillVC.loadON o981 10 rfl ty24 rfl rfl rfl ?_)
                refine StillVC.run (StillVC.loadON o981 11 rfl ty24 rfl rfl rfl ?_)
                refine StillVC.run (StillVC.neS pl24 rfl rfl rfl rfl ?_)
                refine Br.ffE (by first | omega | (simp; done)) ?_
                refine Br.ndec (fun hc => absurd (by first | omega | assumption | decide | exact rfl) hc) (fun c986 => ?_)
                refine Br.dec (fun c987 => ?_) (fun hc => absurd (by omega) hc)
                refine Br.ff ?_
                refine Br.ff ?_
                refine RetVC.one rfl ?_
                exact ⟨by first | rfl | simp, Own.sel (by assumption) [] rfl⟩
            · skip
              rcases hzk with ⟨rfl, kz, qz⟩ | ⟨rfl, rfl, rfl, _⟩
              · skip
                (refine RunVC.alloc p23 ty24 ?_; intro b1000 m1000 o1000)
                (refine RunVC.storeL o1000 9 rfl ty24 rfl (by decide) (And.intro ⟨rfl, rfl⟩ ?_); intro m1001 o1001)
                refine Br.dec (fun c1002 => ?_) (fun hc => absurd (by omega) hc)
                refine Br.ff ?_
                refine Br.dec (fun c1003 => ?_) (fun hc => absurd (by omega) hc)
                refine Br.ff ?_
                refine Br.dec (fun c1004 => ?_) (fun hc => absurd (by omega) hc)
                refine Br.ff ?_
                refine Br.ff ?_
                refine RetVC.one rfl ?_
                exact ⟨by first | rfl | simp, Own.sel (by assumption) [] rfl⟩
              · skip
                (refine RunVC.alloc p23 ty24 ?_; intro b1020 m1020 o1020)
                (refine RunVC.storeL o1020 9 rfl ty24 rfl (by decide) (And.intro ⟨rfl, rfl⟩ ?_); intro m1021 o1021)
                refine Br.dec (fun c1022 => ?_) (fun hc => absurd (by omega) hc)
                refine Br.ff ?_
                refine Br.dec (fun c1023 => ?_) (fun hc => absurd (by omega) hc)
                refine Br.ff ?_
                refine Br.dec (fun c1024 => ?_) (fun hc => absurd (by omega) hc)
                refine Br.ff ?_
                refine Br.ff ?_
                refine RetVC.one rfl ?_
                exact ⟨by first | rfl | simp, Own.sel (by assumption) [] rfl⟩
        · skip
          refine Br.dec (fun c1040 => ?_) (fun hc => absurd (by omega) hc)
          refine StillVC.run (StillVC.fieldAddr st24 rfl rfl rfl ?_)
          refine StillVC.run (StillVC.loadO p9 1 rfl ty3 rfl rfl ?_)
          refine Br.ndec (fun c1043 => ?_) (fun hc => absurd hc (by first | omega | assumption | decide | exact rfl))
          refine StillVC.run (StillVC.loadON p9 5 rfl ty24 rfl rfl rfl ?_)
          refine StillVC.run (StillVC.loadON p9 1 rfl ty24 rfl rfl rfl ?_)
          refine CallVC.ret (div_spec (m1, m2) (b1, b2) _ (okP_i64 km) hb) ?_
          rintro _ h54 ⟨rfl, oc54⟩
          have p54 := oc54.thenE (by assumption)
          rw [divR_ok km kb hb0, qm, qb, show A * B / B = ofP (a1, a2) by rw [qa]; have := fun e => hb0 ((ofP_zero kb).2 (qb.trans e)); grind, packR_ofP ka]
          (refine RunVC.alloc p54 ty24 ?_; intro b1060 m1060 o1060)
          (refine RunVC.storeL o1060 7 rfl ty24 rfl (by decide) (And.intro ⟨rfl, rfl⟩ ?_); intro m1061 o1061)
          refine StillVC.run (StillVC.loadON o1061 7 rfl ty24 rfl rfl rfl ?_)
          refine StillVC.run (StillVC.loadON o1061 0 rfl ty24 rfl rfl rfl ?_)
          refine StillVC.run (StillVC.neS pl24 rfl rfl rfl rfl ?_)
          refine Br.ffE (by first | omega | (simp; done)) ?_
          refine Br.ndec (fun hc => absurd (by first | omega | assumption | decide | exact rfl) hc) (fun c1066 => ?_)
          refine StillVC.run (StillVC.loadON o1061 1 rfl ty24 rfl rfl rfl ?_)
          refine StillVC.run (StillVC.loadON o1061 2 rfl ty24 rfl rfl rfl ?_)
          refine CallVC.ret (add_spec (b1, b2) (c1, c2) _ hb hc) ?_
          rintro _ h55 ⟨rfl, oc55⟩
          have p55 := oc55.thenE (by assumption)
          rw [addR_ok kb kc, qb, qc, hu]
          (refine RunVC.alloc p55 ty24 ?_; intro b1080 m1080 o1080)
          (refine RunVC.storeL o1080 8 rfl ty24 rfl (by decide) (And.intro ⟨rfl, rfl⟩ ?_); intro m1081 o1081)
          refine StillVC.run (StillVC.loadON o1081 1 rfl ty24 rfl rfl rfl ?_)
          refine StillVC.run (StillVC.loadON o1081 2 rfl ty24 rfl rfl rfl ?_)
          refine CallVC.ret (mul_spec (b1, b2) (c1, c2) _ hb hc) ?_
          rintro _ h56 ⟨rfl, oc56⟩
          have p56 := oc56.thenE (by assumption)
          rw [mulR_ok kb kc, qb, qc, hw]
          (refine RunVC.alloc p56 ty24 ?_; intro b1100 m1100 o1100)
          (refine RunVC.storeL o1100 9 rfl ty24 rfl (by decide) (And.intro ⟨rfl, rfl⟩ ?_); intro m1101 o1101)
          refine StillVC.run (StillVC.loadON o1101 0 rfl ty24 rfl rfl rfl ?_)
          refine StillVC.run (StillVC.loadON o1101 2 rfl ty24 rfl rfl rfl ?_)
          refine CallVC.ret (mul_spec (a1, a2) (c1, c2) _ ha hc) ?_
          rintro _ h57 ⟨rfl, oc57⟩
          have p57 := oc57.thenE (by assumption)
          rw [mulR_ok ka kc, qa, qc, hz]
          rcases hui with ⟨rfl, ku, qu⟩ | ⟨rfl, rfl, rfl, _⟩
          · skip
            rcases hwj with ⟨rfl, kw, qw⟩ | ⟨rfl, rfl, rfl, _⟩
            · skip
              rcases hzk with ⟨rfl, kz, qz⟩ | ⟨rfl, rfl, rfl, _⟩
              · skip
                obtain ⟨x58, y58, l58, hx58, _⟩ := packR_two (A + (B + C))
                (refine RunVC.alloc p57 ty24 ?_; intro b1120 m1120 o1120)
                (refine RunVC.storeL o1120 10 rfl ty24 rfl (by decide) (And.intro ⟨rfl, rfl⟩ ?_); intro m1121 o1121)
                refine Br.dec (fun c1122 => ?_) (fun hc => absurd (by omega) hc)
                refine Br.dec (fun c1123 => ?_) (fun hc => absurd (by omega) hc)
                refine StillVC.run (StillVC.loadON o1121 3 rfl ty24 rfl rfl rfl ?_)
                refine StillVC.run (StillVC.loadON o1121 2 rfl ty24 rfl rfl rfl ?_)
                refine CallVC.ret (add_spec (s1, s2) (c1, c2) _ (okP_i64 ks) hc) ?_
                rintro _ h59 ⟨rfl, oc59⟩
                have p59 := oc59.thenE (by assumption)
                rw [addR_ok ks kc, qs, qc, show A + B + C = A + (B + C) by grind, hx58]
                (refine RunVC.alloc p59 ty24 ?_; intro b1140 m1140 o1140)
                (refine RunVC.storeL o1140 11 rfl ty24 rfl (by decide) (And.intro ⟨rfl, rfl⟩ ?_); intro m1141 o1141)
                refine StillVC.run (StillVC.loadON o1141 0 rfl ty24 rfl rfl rfl ?_)
                refine StillVC.run (StillVC.loadON o1141 8 rfl ty24 rfl rfl rfl ?_)
                refine CallVC.ret (add_spec (a1, a2) (u1, u2) _ ha (okP_i64 ku)) ?_
                rintro _ h60 ⟨rfl, oc60⟩
                have p60 := oc60.thenE (by assumption)
                rw [addR_ok ka ku, qa, qu, hx58]
                obtain ⟨x61, y61, l61, hx61, _⟩ := packR_two (A * (B * C))
                (refine RunVC.alloc p60 ty24 ?_; intro b1160 m1160 o1160)
                (refine RunVC.storeL o1160 12 rfl ty24 rfl (by decide) (And.intro ⟨rfl, rfl⟩ ?_); intro m1161 o1161)
                refine StillVC.run (StillVC.loadON o1161 11 rfl ty24 rfl rfl rfl ?_)
                refine StillVC.run (StillVC.loadON o1161 12 rfl ty24 rfl rfl rfl ?_)
                refine StillVC.run (StillVC.neS pl24 rfl rfl rfl rfl ?_)
                refine Br.ffE (by first | omega | (simp; done)) ?_
                refine Br.ndec (fun hc => absurd (by first | omega | assumption | decide | exact rfl) hc) (fun c1166 => ?_)
                refine Br.dec (fun c1167 => ?_) (fun hc => absurd (by omega) hc)
                refine Br.dec (fun c1168 => ?_) (fun hc => absurd (by omega) hc)
                refine StillVC.run (StillVC.loadON o1161 5 rfl ty24 rfl rfl rfl ?_)
                refine StillVC.run (StillVC.loadON o1161 2 rfl ty24 rfl rfl rfl ?_)
                refine CallVC.ret (mul_spec (m1, m2) (c1, c2) _ (okP_i64 km) hc) ?_
                rintro _ h62 ⟨rfl, oc62⟩
                have p62 := oc62.thenE (by assumption)
                rw [mulR_ok km kc, qm, qc, show A * B * C = A * (B * C) by grind, hx61]
                (refine RunVC.alloc p62 ty24 ?_; intro b1180 m1180 o1180)
                (refine RunVC.storeL o1180 13 rfl ty24 rfl (by decide) (And.intro ⟨rfl, rfl⟩ ?_); intro m1181 o1181)
                refine StillVC.run (StillVC.loadON o1181 0 rfl ty24 rfl rfl rfl ?_)
                refine StillVC.run (StillVC.loadON o1181 9 rfl ty24 rfl rfl rfl ?_)
                refine CallVC.ret (mul_spec (a1, a2) (w1, w2) _ ha (okP_i64 kw)) ?_
                rintro _ h63 ⟨rfl, oc63⟩
                have p63 := oc63.thenE (by assumption)
                rw [mulR_ok ka kw, qa, qw, hx61]
                obtain ⟨x64, y64, l64, hx64, _⟩ := packR_two (A * B + A * C)
                (refine RunVC.alloc p63 ty24 ?_; intro b1200 m1200 o1200)
                (refine RunVC.storeL o1200 14 rfl ty24 rfl (by decide) (And.intro ⟨rfl, rfl⟩ ?_); intro m1201 o1201)
                refine StillVC.run (StillVC.loadON o1201 13 rfl ty24 rfl rfl rfl ?_)
                refine StillVC.run (StillVC.loadON o1201 14 rfl ty24 rfl rfl rfl ?_)
                refine StillVC.run (StillVC.neS pl24 rfl rfl rfl rfl ?_)
                refine Br.ffE (by first | omega | (simp; done)) ?_
                refine Br.ndec (fun hc => absurd (by first | omega | assumption | decide | exact rfl) hc) (fun c1206 => ?_)
                refine Br.dec (fun c1207 => ?_) (fun hc => absurd (by omega) hc)
                refine Br.dec (fun c1208 => ?_) (fun hc => absurd (by omega) hc)
                refine Br.dec (fun c1209 => ?_) (fun hc => absurd (by omega) hc)
                refine StillVC.run (StillVC.loadON o1201 0 rfl ty24 rfl rfl rfl ?_)
                refine StillVC.run (StillVC.loadON o1201 8 rfl ty24 rfl rfl rfl ?_)
                refine CallVC.ret (mul_spec (a1, a2) (u1, u2) _ ha (okP_i64 ku)) ?_
                rintro _ h65 ⟨rfl, oc65⟩
                have p65 := oc65.thenE (by assumption)
                rw [mulR_ok ka ku, qa, qu, show A * (B + C) = A * B + A * C by grind, hx64]
                (refine RunVC.alloc p65 ty24 ?_; intro b1220 m1220 o1220)
                (refine RunVC.storeL o1220 15 rfl ty24 rfl (by decide) (And.intro ⟨rfl, rfl⟩ ?_); intro m1221 o1221)
                refine StillVC.run (StillVC.loadON o1221 5 rfl ty24 rfl rfl rfl ?_)
                refine StillVC.run (StillVC.loadON o1221 10 rfl ty24 rfl rfl rfl ?_)
                refine CallVC.ret (add_spec (m1, m2) (z1, z2) _ (okP_i64 km) (okP_i64 kz)) ?_
                rintro _ h66 ⟨rfl, oc66⟩
                have p66 := oc66.thenE (by assumption)
                rw [addR_ok km kz, qm, qz, hx64]
                (refine RunVC.alloc p66 ty24 ?_; intro b1240 m1240 o1240)
                (refine RunVC.storeL o1240 16 rfl ty24 rfl (by decide) (And.intro ⟨rfl, rfl⟩ ?_); intro m1241 o1241)
                refine Br.tt ?_
                refine StillVC.run (StillVC.loadON o1241 15 rfl ty24 rfl rfl rfl ?_)
                refine StillVC.run (StillVC.loadON o1241 16 rfl ty24 rfl rfl rfl ?_)
                refine StillVC.run (StillVC.eqS pl24 rfl rfl rfl rfl ?_)
                refine Br.ttE (by first | omega | (simp; done)) ?_
                refine RetVC.one rfl ?_
                exact ⟨by first | rfl | simp, Own.sel (by assumption) [] rfl⟩
              · skip
                obtain ⟨x67, y67, l67, hx67, _⟩ := packR_two (A + (B + C))
                (refine RunVC.alloc p57 ty24 ?_; intro b1260 m1260 o1260)
                (refine RunVC.storeL o1260 10 rfl ty24 rfl (by decide) (And.intro ⟨rfl, rfl⟩ ?_); intro m1261 o1261)
                refine Br.dec (fun c1262 => ?_) (fun hc => absurd (by omega) hc)
                refine Br.dec (fun c1263 => ?_) (fun hc => absurd (by omega) hc)
                refine StillVC.run (StillVC.loadON o1261 3 rfl ty24 rfl rfl rfl ?_)
                refine StillVC.run (StillVC.loadON o1261 2 rfl ty24 rfl rfl rfl ?_)
                refine CallVC.ret (add_spec (s1, s2) (c1, c2) _ (okP_i64 ks) hc) ?_
                rintro _ h68 ⟨rfl, oc68⟩
                have p68 := oc68.thenE (by assumption)
                rw [addR_ok ks kc, qs, qc, show A + B + C = A + (B + C) by grind, hx67]
                (refine RunVC.alloc p68 ty24 ?_; intro b1280 m1280 o1280)
                (refine RunVC.storeL o1280 11 rfl ty24 rfl (by decide) (And.intro ⟨rfl, rfl⟩ ?_); intro m1281 o1281)
                refine StillVC.run (StillVC.loadON o1281 0 rfl ty24 rfl rfl rfl ?_)
                refine StillVC.run (StillVC.loadON o1281 8 rfl ty24 rfl rfl rfl ?_)
                refine CallVC.ret (add_spec (a1, a2) (u1, u2) _ ha (okP_i64 ku)) ?_
                rintro _ h69 ⟨rfl, oc69⟩
                have p69 := oc69.thenE (by assumption)
                rw [addR_ok ka ku, qa, qu, hx67]
                obtain ⟨x70, y70, l70, hx70, _⟩ := packR_two (A * (B * C))
                (refine RunVC.alloc p69 ty24 ?_; intro b1300 m1300 o1300)
                (refine RunVC.storeL o1300 12 rfl ty24 rfl (by decide) (And.intro ⟨rfl, rfl⟩ ?_); intro m1301 o1301)
                refine StillVC.run (StillVC.loadON o1301 11 rfl ty24 rfl rfl rfl ?_)
                refine StillVC.run (StillVC.loadON o1301 12 rfl ty24 rfl rfl rfl ?_)
                refine StillVC.run (StillVC.neS pl24 rfl rfl rfl rfl ?_)
                refine Br.ffE (by first | omega | (simp; done)) ?_
                refine Br.ndec (fun hc => absurd (by first | omega | assumption | decide | exact rfl) hc) (fun c1306 => ?_)
                refine Br.dec (fun c1307 => ?_) (fun hc => absurd (by omega) hc)
                refine Br.dec (fun c1308 => ?_) (fun hc => absurd (by omega) hc)
                refine StillVC.run (StillVC.loadON o1301 5 rfl ty24 rfl rfl rfl ?_)
                refine StillVC.run (StillVC.loadON o1301 2 rfl ty24 rfl rfl rfl ?_)
                refine CallVC.ret (mul_spec (m1, m2) (c1, c2) _ (okP_i64 km) hc) ?_
                rintro _ h71 ⟨rfl, oc71⟩
                have p71 := oc71.thenE (by assumption)
                rw [mulR_ok km kc, qm, qc, show A * B * C = A * (B * C) by grind, hx70]
                (refine RunVC.alloc p71 ty24 ?_; intro b1320 m1320 o1320)
                (refine RunVC.storeL o1320 13 rfl ty24 rfl (by decide) (And.intro ⟨rfl, rfl⟩ ?_); intro m1321 o1321)
                refine StillVC.run (StillVC.loadON o1321 0 rfl ty24 rfl rfl rfl ?_)
                refine StillVC.run (StillVC.loadON o1321 9 rfl ty24 rfl rfl rfl ?_)
                refine CallVC.ret (mul_spec (a1, a2) (w1, w2) _ ha (okP_i64 kw)) ?_
                rintro _ h72 ⟨rfl, oc72⟩
                have p72 := oc72.thenE (by assumption)
                rw [mulR_ok ka kw, qa, qw, hx70]
                (refine RunVC.alloc p72 ty24 ?_; intro b1340 m1340 o1340)
                (refine RunVC.storeL o1340 14 rfl ty24 rfl (by decide) (And.intro ⟨rfl, rfl⟩ ?_); intro m1341 o1341)
                refine StillVC.run (StillVC.loadON o1341 13 rfl ty24 rfl rfl rfl ?_)
                refine StillVC.run (StillVC.loadON o1341 14 rfl ty24 rfl rfl rfl ?_)
                refine StillVC.run (StillVC.neS pl24 rfl rfl rfl rfl ?_)
                refine Br.ffE (by first | omega | (simp; done)) ?_
                refine Br.ndec (fun hc => absurd (by first | omega | assumption | decide | exact rfl) hc) (fun c1346 => ?_)
                refine Br.dec (fun c1347 => ?_) (fun hc => absurd (by omega) hc)
                refine Br.dec (fun c1348 => ?_) (fun hc => absurd (by omega) hc)
                refine Br.ff ?_
                refine RetVC.one rfl ?_
                exact ⟨by first | rfl | simp, Own.sel (by assumption) [] rfl⟩
            · skip
              rcases hzk with ⟨rfl, kz, qz⟩ | ⟨rfl, rfl, rfl, _⟩
              · skip
                obtain ⟨x73, y73, l73, hx73, _⟩ := packR_two (A + (B + C))
                (refine RunVC.alloc p57 ty24 ?_; intro b1360 m1360 o1360)
                (refine RunVC.storeL o1360 10 rfl ty24 rfl (by decide) (And.intro ⟨rfl, rfl⟩ ?_); intro m1361 o1361)
                refine Br.dec (fun c1362 => ?_) (fun hc => absurd (by omega) hc)
                refine Br.dec (fun c1363 => ?_) (fun hc => absurd (by omega) hc)
                refine StillVC.run (StillVC.loadON o1361 3 rfl ty24 rfl rfl rfl ?_)
                refine StillVC.run (StillVC.loadON o1361 2 rfl ty24 rfl rfl rfl ?_)
                refine CallVC.ret (add_spec (s1, s2) (c1, c2) _ (okP_i64 ks) hc) ?_
                rintro _ h74 ⟨rfl, oc74⟩
                have p74 := oc74.thenE (by assumption)
                rw [addR_ok ks kc, qs, qc, show A + B + C = A + (B + C) by grind, hx73]
                (refine RunVC.alloc p74 ty24 ?_; intro b1380 m1380 o1380)
                (refine RunVC.storeL o1380 11 rfl ty24 rfl (by decide) (And.intro ⟨rfl, rfl⟩ ?_); intro m1381 o1381)
                refine StillVC.run (StillVC.loadON o1381 0 rfl ty24 rfl rfl rfl ?_)
                refine StillVC.run (StillVC.loadON o1381 8 rfl ty24 rfl rfl rfl ?_)
                refine CallVC.ret (add_spec (a1, a2) (u1, u2) _ ha (okP_i64 ku)) ?_
                rintro _ h75 ⟨rfl, oc75⟩
                have p75 := oc75.thenE (by assumption)
                rw [addR_ok ka ku, qa, qu, hx73]
                obtain ⟨x76, y76, l76, hx76, _⟩ := packR_two (A * B + A * C)
                (refine RunVC.alloc p75 ty24 ?_; intro b1400 m1400 o1400)
                (refine RunVC.storeL o1400 12 rfl ty24 rfl (by decide) (And.intro ⟨rfl, rfl⟩ ?_); intro m1401 o1401)
                refine StillVC.run (StillVC.loadON o1401 11 rfl ty24 rfl rfl rfl ?_)
                refine StillVC.run (StillVC.loadON o1401 12 rfl ty24 rfl rfl rfl ?_)
                refine StillVC.run (StillVC.neS pl24 rfl rfl rfl rfl ?_)
                refine Br.ffE (by first | omega | (simp; done)) ?_
                refine Br.ndec (fun hc => absurd (by first | omega | assumption | decide | exact rfl) hc) (fun c1406 => ?_)
                refine Br.dec (fun c1407 => ?_) (fun hc => absurd (by omega) hc)
                refine Br.ff ?_
                refine Br.dec (fun c1408 => ?_) (fun hc => absurd (by omega) hc)
                refine Br.dec (fun c1409 => ?_) (fun hc => absurd (by omega) hc)
                refine Br.dec (fun c1410 => ?_) (fun hc => absurd (by omega) hc)
                refine StillVC.run (StillVC.loadON o1401 0 rfl ty24 rfl rfl rfl ?_)
                refine StillVC.run (StillVC.loadON o1401 8 rfl ty24 rfl rfl rfl ?_)
                refine CallVC.ret (mul_spec (a1, a2) (u1, u2) _ ha (okP_i64 ku)) ?_
                rintro _ h77 ⟨rfl, oc77⟩
                have p77 := oc77.thenE (by assumption)
                rw [mulR_ok ka ku, qa, qu, show A * (B + C) = A * B + A * C by grind, hx76]
                (refine RunVC.alloc p77 ty24 ?_; intro b1420 m1420 o1420)
                (refine RunVC.storeL o1420 13 rfl ty24 rfl (by decide) (And.intro ⟨rfl, rfl⟩ ?_); intro m1421 o1421)
                refine StillVC.run (StillVC.loadON o1421 5 rfl ty24 rfl rfl rfl ?_)
                refine StillVC.run (StillVC.loadON o1421 10 rfl ty24 rfl rfl rfl ?_)
                refine CallVC.ret (add_spec (m1, m2) (z1, z2) _ (okP_i64 km) (okP_i64 kz)) ?_
                rintro _ h78 ⟨rfl, oc78⟩
                have p78 := oc78.thenE (by assumption)
                rw [addR_ok km kz, qm, qz, hx76]
                (refine RunVC.alloc p78 ty24 ?_; intro b1440 m1440 o1440)
                (refine RunVC.storeL o1440 14 rfl ty24 rfl (by decide) (And.intro ⟨rfl, rfl⟩ ?_); intro m1441 o1441)
                refine Br.tt ?_
                refine StillVC.run (StillVC.loadON o1441 13 rfl ty24 rfl rfl rfl ?_)
                refine StillVC.run (StillVC.loadON o1441 14 rfl ty24 rfl rfl rfl ?_)
                refine StillVC.run (StillVC.eqS pl24 rfl rfl rfl rfl ?_)
                refine Br.ttE (by first | omega | (simp; done)) ?_
                refine RetVC.one rfl ?_
                exact ⟨by first | rfl | simp, Own.sel (by assumption) [] rfl⟩
              · skip
                obtain ⟨x79, y79, l79, hx79, _⟩ := packR_two (A + (B + C))
                (refine RunVC.alloc p57 ty24 ?_; intro b1460 m1460 o1460)
                (refine RunVC.storeL o1460 10 rfl ty24 rfl (by decide) (And.intro ⟨rfl, rfl⟩ ?_); intro m1461 o1461)
                refine Br.dec (fun c1462 => ?_) (fun hc => absurd (by omega) hc)
                refine Br.dec (fun c1463 => ?_) (fun hc => absurd (by omega) hc)
                refine StillVC.run (StillVC.loadON o1461 3 rfl ty24 rfl rfl rfl ?_)
                refine StillVC.run (StillVC.loadON o1461 2 rfl ty24 rfl rfl rfl ?_)
                refine CallVC.ret (add_spec (s1, s2) (c1, c2) _ (okP_i64 ks) hc) ?_
                rintro _ h80 ⟨rfl, oc80⟩
                have p80 := oc80.thenE (by assumption)
                rw [addR_ok ks kc, qs, qc, show A + B + C = A + (B + C) by grind, hx79]
                (refine RunVC.alloc p80 ty24 ?_; intro b1480 m1480 o1480)
                (refine RunVC.storeL o1480 11 rfl ty24 rfl (by decide) (And.intro ⟨rfl, rfl⟩ ?_); intro m1481 o1481)
                refine StillVC.run (StillVC.loadON o1481 0 rfl ty24 rfl rfl rfl ?_)
                refine StillVC.run (StillVC.loadON o1481 8 rfl ty24 rfl rfl rfl ?_)
                refine CallVC.ret (add_spec (a1, a2) (u1, u2) _ ha (okP_i64 ku)) ?_
                rintro _ h81 ⟨rfl, oc81⟩
                have p81 := oc81.thenE (by assumption)
                rw [addR_ok ka ku, qa, qu, hx79]
                (refine RunVC.alloc p81 ty24 ?_; intro b1500 m1500 o1500)
                (refine RunVC.storeL o1500 12 rfl ty24 rfl (by decide) (And.intro ⟨rfl, rfl⟩ ?_); intro m1501 o1501)
                refine StillVC.run (StillVC.loadON o1501 11 rfl ty24 rfl rfl rfl ?_)
                refine StillVC.run (StillVC.loadON o1501 12 rfl ty24 rfl rfl rfl ?_)
                refine StillVC.run (StillVC.neS pl24 rfl rfl rfl rfl ?_)
                refine Br.ffE (by first | omega | (simp; done)) ?_
                refine Br.ndec (fun hc => absurd (by first | omega | assumption | decide | exact rfl) hc) (fun c1506 => ?_)
                refine Br.dec (fun c1507 => ?_) (fun hc => absurd (by omega) hc)
                refine Br.ff ?_
                refine Br.dec (fun c1508 => ?_) (fun hc => absurd (by omega) hc)
                refine Br.dec (fun c1509 => ?_) (fun hc => absurd (by omega) hc)
                refine Br.ff ?_
                refine RetVC.one rfl ?_
                exact ⟨by first | rfl | simp, Own.sel (by assumption) [] rfl⟩
          · skip
            rcases hwj with ⟨rfl, kw, qw⟩ | ⟨rfl, rfl, rfl, _⟩
            · skip
              rcases hzk with ⟨rfl, kz, qz⟩ | ⟨rfl, rfl, rfl, _⟩
              · skip
                obtain ⟨x82, y82, l82, hx82, _⟩ := packR_two (A * (B * C))
                (refine RunVC.alloc p57 ty24 ?_; intro b1520 m1520 o1520)
                (refine RunVC.storeL o1520 10 rfl ty24 rfl (by decide) (And.intro ⟨rfl, rfl⟩ ?_); intro m1521 o1521)
                refine Br.dec (fun c1522 => ?_) (fun hc => absurd (by omega) hc)
                refine Br.ff ?_
                refine Br.dec (fun c1523 => ?_) (fun hc => absurd (by omega) hc)
                refine Br.dec (fun c1524 => ?_) (fun hc => absurd (by omega) hc)
                refine StillVC.run (StillVC.loadON o1521 5 rfl ty24 rfl rfl rfl ?_)
                refine StillVC.run (StillVC.loadON o1521 2 rfl ty24 rfl rfl rfl ?_)
                refine CallVC.ret (mul_spec (m1, m2) (c1, c2) _ (okP_i64 km) hc) ?_
                rintro _ h83 ⟨rfl, oc83⟩
                have p83 := oc83.thenE (by assumption)
                rw [mulR_ok km kc, qm, qc, show A * B * C = A * (B * C) by grind, hx82]
                (refine RunVC.alloc p83 ty24 ?_; intro b1540 m1540 o1540)
                (refine RunVC.storeL o1540 11 rfl ty24 rfl (by decide) (And.intro ⟨rfl, rfl⟩ ?_); intro m1541 o1541)
                refine StillVC.run (StillVC.loadON o1541 0 rfl ty24 rfl rfl rfl ?_)
                refine StillVC.run (StillVC.loadON o1541 9 rfl ty24 rfl rfl rfl ?_)
                refine CallVC.ret (mul_spec (a1, a2) (w1, w2) _ ha (okP_i64 kw)) ?_
                rintro _ h84 ⟨rfl, oc84⟩
                have p84 := oc84.thenE (by assumption)
                rw [mulR_ok ka kw, qa, qw, hx82]
                (refine RunVC.alloc p84 ty24 ?_; intro b1560 m1560 o1560)
                (refine RunVC.storeL o1560 12 rfl ty24 rfl (by decide) (And.intro ⟨rfl, rfl⟩ ?_); intro m1561 o1561)
                refine StillVC.run (StillVC.loadON o1561 11 rfl ty24 rfl rfl rfl ?_)
                refine StillVC.run (StillVC.loadON o1561 12 rfl ty24 rfl rfl rfl ?_)
                refine StillVC.run (StillVC.neS pl24 rfl rfl rfl rfl ?_)
                refine Br.ffE (by first | omega | (simp; done)) ?_
                refine Br.ndec (fun hc => absurd (by first | omega | assumption | decide | exact rfl) hc) (fun c1566 => ?_)
                refine Br.dec (fun c1567 => ?_) (fun hc => absurd (by omega) hc)
                refine Br.ff ?_
                refine Br.ff ?_
                refine RetVC.one rfl ?_
                exact ⟨by first | rfl | simp, Own.sel (by assumption) [] rfl⟩
              · skip
                obtain ⟨x85, y85, l85, hx85, _⟩ := packR_two (A * (B * C))
                (refine RunVC.alloc p57 ty24 ?_; intro b1580 m1580 o1580)
                (refine RunVC.storeL o1580 10 rfl ty24 rfl (by decide) (And.intro ⟨rfl, rfl⟩ ?_); intro m1581 o1581)
                refine Br.dec (fun c1582 => ?_) (fun hc => absurd (by omega) hc)
                refine Br.ff ?_
                refine Br.dec (fun c1583 => ?_) (fun hc => absurd (by omega) hc)
                refine Br.dec (fun c1584 => ?_) (fun hc => absurd (by omega) hc)
                refine StillVC.run (StillVC.loadON o1581 5 rfl ty24 rfl rfl rfl ?_)
                refine StillVC.run (StillVC.loadON o1581 2 rfl ty24 rfl rfl rfl ?_)
                refine CallVC.ret (mul_spec (m1, m2) (c1, c2) _ (okP_i64 km) hc) ?_
                rintro _ h86 ⟨rfl, oc86⟩
                have p86 := oc86.thenE (by assumption)
                rw [mulR_ok km kc, qm, qc, show A * B * C = A * (B * C) by grind, hx85]
                (refine RunVC.alloc p86 ty24 ?_; intro b1600 m1600 o1600)
                (refine RunVC.storeL o1600 11 rfl ty24 rfl (by decide) (And.intro ⟨rfl, rfl⟩ ?_); intro m1601 o1601)
                refine StillVC.run (StillVC.loadON o1601 0 rfl ty24 rfl rfl rfl ?_)
                refine StillVC.run (StillVC.loadON o1601 9 rfl ty24 rfl rfl rfl ?_)
                refine CallVC.ret (mul_spec (a1, a2) (w1, w2) _ ha (okP_i64 kw)) ?_
                rintro _ h87 ⟨rfl, oc87⟩
                have p87 := oc87.thenE (by assumption)
                rw [mulR_ok ka kw, qa, qw, hx85]
                (refine RunVC.alloc p87 ty24 ?_; intro b1620 m1620 o1620)
                (refine RunVC.storeL o1620 12 rfl ty24 rfl (by decide) (And.intro ⟨rfl, rfl⟩ ?_); intro m1621 o1621)
                refine StillVC.run (StillVC.loadON o1621 11 rfl ty24 rfl rfl rfl ?_)
                refine StillVC.run (StillVC.loadON o1621 12 rfl ty24 rfl rfl rfl ?_)
                refine StillVC.run (StillVC.neS pl24 rfl rfl rfl rfl ?_)
                refine Br.ffE (by first | omega | (simp; done)) ?_
                refine Br.ndec (fun hc => absurd (by first | omega | assumption | decide | exact rfl) hc) (fun c1626 => ?_)
                refine Br.dec (fun c1627 => ?_) (fun hc => absurd (by omega) hc)
                refine Br.ff ?_
                refine Br.ff ?_
                refine RetVC.one rfl ?_
                exact ⟨by first | rfl | simp, Own.sel (by assumption) [] rfl⟩
            · skip
              rcases hzk with ⟨rfl, kz, qz⟩ | ⟨rfl, rfl, rfl, _⟩
              · skip
                (refine RunVC.alloc p57 ty24 ?_; intro b1640 m1640 o1640)
                (refine RunVC.storeL o1640 10 rfl ty24 rfl (by decide) (And.intro ⟨rfl, rfl⟩ ?_); intro m1641 o1641)
                refine Br.dec (fun c1642 => ?_) (fun hc => absurd (by omega) hc)
                refine Br.ff ?_
                refine Br.dec (fun c1643 => ?_) (fun hc => absurd (by omega) hc)
                refine Br.ff ?_
                refine Br.dec (fun c1644 => ?_) (fun hc => absurd (by omega) hc)
                refine Br.ff ?_
                refine Br.ff ?_
                refine RetVC.one rfl ?_
                exact ⟨by first | rfl | simp, Own.sel (by assumption) [] rfl⟩
              · skip
                (refine RunVC.alloc p57 ty24 ?_; intro b1660 m1660 o1660)
                (refine RunVC.storeL o1660 10 rfl ty24 rfl (by decide) (And.intro ⟨rfl, rfl⟩ ?_); intro m1661 o1661)
                refine Br.dec (fun c1662 => ?_) (fun hc => absurd (by omega) hc)
                refine Br.ff ?_
                refine Br.dec (fun c1663 => ?_) (fun hc => absurd (by omega) hc)
                refine Br.ff ?_
                refine Br.dec (fun c1664 => ?_) (fun hc => absurd (by omega) hc)
                refine Br.ff ?_
                refine Br.ff ?_
                refine RetVC.one rfl ?_
                exact ⟨by first | rfl | simp, Own.sel (by assumption) [] rfl⟩
      · skip
        refine Br.ff ?_
        refine Br.ff ?_
        refine StillVC.run (StillVC.loadON p9 1 rfl ty24 rfl rfl rfl ?_)
        refine StillVC.run (StillVC.loadON p9 2 rfl ty24 rfl rfl rfl ?_)
        refine CallVC.ret (add_spec (b1, b2) (c1, c2) _ hb hc) ?_
        rintro _ h88 ⟨rfl, oc88⟩
        have p88 := oc88.thenE (by assumption)
        rw [addR_ok kb kc, qb, qc, hu]
        (refine RunVC.alloc p88 ty24 ?_; intro b1700 m1700 o1700)
        (refine RunVC.storeL o1700 7 rfl ty24 rfl (by decide) (And.intro ⟨rfl, rfl⟩ ?_); intro m1701 o1701)
        refine StillVC.run (StillVC.loadON o1701 1 rfl ty24 rfl rfl rfl ?_)
        refine StillVC.run (StillVC.loadON o1701 2 rfl ty24 rfl rfl rfl ?_)
        refine CallVC.ret (mul_spec (b1, b2) (c1, c2) _ hb hc) ?_
        rintro _ h89 ⟨rfl, oc89⟩
        have p89 := oc89.thenE (by assumption)
        rw [mulR_ok kb kc, qb, qc, hw]
        (refine RunVC.alloc p89 ty24 ?_; intro b1720 m1720 o1720)
        (refine RunVC.storeL o1720 8 rfl ty24 rfl (by decide) (And.intro ⟨rfl, rfl⟩ ?_); intro m1721 o1721)
        refine StillVC.run (StillVC.loadON o1721 0 rfl ty24 rfl rfl rfl ?_)
        refine StillVC.run (StillVC.loadON o1721 2 rfl ty24 rfl rfl rfl ?_)
        refine CallVC.ret (mul_spec (a1, a2) (c1, c2) _ ha hc) ?_
        rintro _ h90 ⟨rfl, oc90⟩
        have p90 := oc90.thenE (by assumption)
        rw [mulR_ok ka kc, qa, qc, hz]
        rcases hui with ⟨rfl, ku, qu⟩ | ⟨rfl, rfl, rfl, _⟩
        · skip
          obtain ⟨x91, y91, l91, hx91, _⟩ := packR_two (A + (B + C))
          (refine RunVC.alloc p90 ty24 ?_; intro b1740 m1740 o1740)
          (refine RunVC.storeL o1740 9 rfl ty24 rfl (by decide) (And.intro ⟨rfl, rfl⟩ ?_); intro m1741 o1741)
          refine Br.dec (fun c1742 => ?_) (fun hc => absurd (by omega) hc)
          refine Br.dec (fun c1743 => ?_) (fun hc => absurd (by omega) hc)
          refine StillVC.run (StillVC.loadON o1741 3 rfl ty24 rfl rfl rfl ?_)
          refine StillVC.run (StillVC.loadON o1741 2 rfl ty24 rfl rfl rfl ?_)
          refine CallVC.ret (add_spec (s1, s2) (c1, c2) _ (okP_i64 ks) hc) ?_
          rintro _ h92 ⟨rfl, oc92⟩
          have p92 := oc92.thenE (by assumption)
          rw [addR_ok ks kc, qs, qc, show A + B + C = A + (B + C) by grind, hx91]
          (refine RunVC.alloc p92 ty24 ?_; intro b1760 m1760 o1760)
          (refine RunVC.storeL o1760 10 rfl ty24 rfl (by decide) (And.intro ⟨rfl, rfl⟩ ?_); intro m1761 o1761)
          refine StillVC.run (StillVC.loadON o1761 0 rfl ty24 rfl rfl rfl ?_)
          refine StillVC.run (StillVC.loadON o1761 7 rfl ty24 rfl rfl rfl ?_)
          refine CallVC.ret (add_spec (a1, a2) (u1, u2) _ ha (okP_i64 ku)) ?_
          rintro _ h93 ⟨rfl, oc93⟩
          have p93 := oc93.thenE (by assumption)
          rw [addR_ok ka ku, qa, qu, hx91]
          (refine RunVC.alloc p93 ty24 ?_; intro b1780 m1780 o1780)
          (refine RunVC.storeL o1780 11 rfl ty24 rfl (by decide) (And.intro ⟨rfl, rfl⟩ ?_); intro m1781 o1781)
          refine StillVC.run (StillVC.loadON o1781 10 rfl ty24 rfl rfl rfl ?_)
          refine StillVC.run (StillVC.loadON o1781 11 rfl ty24 rfl rfl rfl ?_)
          refine StillVC.run (StillVC.neS pl24 rfl rfl rfl rfl ?_)
          refine Br.ffE (by first | omega | (simp; done)) ?_
          refine Br.ndec (fun hc => absurd (by first | omega | assumption | decide | exact rfl) hc) (fun c1786 => ?_)
          refine Br.ff ?_
          refine Br.ff ?_
          refine Br.ff ?_
          refine Br.ff ?_
          refine RetVC.one rfl ?_
          exact ⟨by first | rfl | simp, Own.sel (by assumption) [] rfl⟩
        · skip
          (refine RunVC.alloc p90 ty24 ?_; intro b1800 m1800 o1800)
          (refine RunVC.storeL o1800 9 rfl ty24 rfl (by decide) (And.intro ⟨rfl, rfl⟩ ?_); intro m1801 o1801)
          refine Br.dec (fun c1802 => ?_) (fun hc => absurd (by omega) hc)
          refine Br.ff ?_
          refine Br.ff ?_
          refine Br.ff ?_
          refine Br.ff ?_
          refine Br.ff ?_
          refine RetVC.one rfl ?_
          exact ⟨by first | rfl | simp, Own.sel (by assumption) [] rfl⟩
    · rcases hmg with ⟨rfl, km, qm⟩ | ⟨rfl, rfl, rfl, _⟩
      · by_cases hb0 : b1 = 0
        · skip
          refine Br.dec (fun c1820 => ?_) (fun hc => absurd (by omega) hc)
          refine StillVC.run (StillVC.fieldAddr st24 rfl rfl rfl ?_)
          refine StillVC.run (StillVC.loadO p9 1 rfl ty3 rfl rfl ?_)
          refine Br.ndec (fun hc => absurd (by first | omega | assumption | decide | exact rfl) hc) (fun c1823 => ?_)
          refine StillVC.run (StillVC.loadON p9 1 rfl ty24 rfl rfl rfl ?_)
          refine StillVC.run (StillVC.loadON p9 2 rfl ty24 rfl rfl rfl ?_)
          refine CallVC.ret (add_spec (b1, b2) (c1, c2) _ hb hc) ?_
          rintro _ h94 ⟨rfl, oc94⟩
          have p94 := oc94.thenE (by assumption)
          rw [addR_ok kb kc, qb, qc, hu]
          (refine RunVC.alloc p94 ty24 ?_; intro b1840 m1840 o1840)
          (refine RunVC.storeL o1840 7 rfl ty24 rfl (by decide) (And.intro ⟨rfl, rfl⟩ ?_); intro m1841 o1841)
          refine StillVC.run (StillVC.loadON o1841 1 rfl ty24 rfl rfl rfl ?_)
          refine StillVC.run (StillVC.loadON o1841 2 rfl ty24 rfl rfl rfl ?_)
          refine CallVC.ret (mul_spec (b1, b2) (c1, c2) _ hb hc) ?_
          rintro _ h95 ⟨rfl, oc95⟩
          have p95 := oc95.thenE (by assumption)
          rw [mulR_ok kb kc, qb, qc, hw]
          (refine RunVC.alloc p95 ty24 ?_; intro b1860 m1860 o1860)
          (refine RunVC.storeL o1860 8 rfl ty24 rfl (by decide) (And.intro ⟨rfl, rfl⟩ ?_); intro m1861 o1861)
          refine StillVC.run (StillVC.loadON o1861 0 rfl ty24 rfl rfl rfl ?_)
          refine StillVC.run (StillVC.loadON o1861 2 rfl ty24 rfl rfl rfl ?_)
          refine CallVC.ret (mul_spec (a1, a2) (c1, c2) _ ha hc) ?_
          rintro _ h96 ⟨rfl, oc96⟩
          have p96 := oc96.thenE (by assumption)
          rw [mulR_ok ka kc, qa, qc, hz]
          rcases hui with ⟨rfl, ku, qu⟩ | ⟨rfl, rfl, rfl, _⟩
          · skip
            rcases hwj with ⟨rfl, kw, qw⟩ | ⟨rfl, rfl, rfl, _⟩
            · skip
              rcases hzk with ⟨rfl, kz, qz⟩ | ⟨rfl, rfl, rfl, _⟩
              · skip
                obtain ⟨x97, y97, l97, hx97, _⟩ := packR_two (A * (B * C))
                (refine RunVC.alloc p96 ty24 ?_; intro b1880 m1880 o1880)
                (refine RunVC.storeL o1880 9 rfl ty24 rfl (by decide) (And.intro ⟨rfl, rfl⟩ ?_); intro m1881 o1881)
                refine Br.ff ?_
                refine Br.ff ?_
                refine Br.dec (fun c1882 => ?_) (fun hc => absurd (by omega) hc)
                refine Br.dec (fun c1883 => ?_) (fun hc => absurd (by omega) hc)
                refine StillVC.run (StillVC.loadON o1881 5 rfl ty24 rfl rfl rfl ?_)
                refine StillVC.run (StillVC.loadON o1881 2 rfl ty24 rfl rfl rfl ?_)
                refine CallVC.ret (mul_spec (m1, m2) (c1, c2) _ (okP_i64 km) hc) ?_
                rintro _ h98 ⟨rfl, oc98⟩
                have p98 := oc98.thenE (by assumption)
                rw [mulR_ok km kc, qm, qc, show A * B * C = A * (B * C) by grind, hx97]
                (refine RunVC.alloc p98 ty24 ?_; intro b1900 m1900 o1900)
                (refine RunVC.storeL o1900 10 rfl ty24 rfl (by decide) (And.intro ⟨rfl, rfl⟩ ?_); intro m1901 o1901)
                refine StillVC.run (StillVC.loadON o1901 0 rfl ty24 rfl rfl rfl ?_)
                refine StillVC.run (StillVC.loadON o1901 8 rfl ty24 rfl rfl rfl ?_)
                refine CallVC.ret (mul_spec (a1, a2) (w1, w2) _ ha (okP_i64 kw)) ?_
                rintro _ h99 ⟨rfl, oc99⟩
                have p99 := oc99.thenE (by assumption)
                rw [mulR_ok ka kw, qa, qw, hx97]
                obtain ⟨x100, y100, l100, hx100, _⟩ := packR_two (A * B + A * C)
                (refine RunVC.alloc p99 ty24 ?_; intro b1920 m1920 o1920)
                (refine RunVC.storeL o1920 11 rfl ty24 rfl (by decide) (And.intro ⟨rfl, rfl⟩ ?_); intro m1921 o1921)
                refine StillVC.run (StillVC.loadON o1921 10 rfl ty24 rfl rfl rfl ?_)
                refine StillVC.run (StillVC.loadON o1921 11 rfl ty24 rfl rfl rfl ?_)
                refine StillVC.run (StillVC.neS pl24 rfl rfl rfl rfl ?_)
                refine Br.ffE (by first | omega | (simp; done)) ?_
                refine Br.ndec (fun hc => absurd (by first | omega | assumption | decide | exact rfl) hc) (fun c1926 => ?_)
                refine Br.dec (fun c1927 => ?_) (fun hc => absurd (by omega) hc)
                refine Br.dec (fun c1928 => ?_) (fun hc => absurd (by omega) hc)
                refine Br.dec (fun c1929 => ?_) (fun hc => absurd (by omega) hc)
                refine StillVC.run (StillVC.loadON o1921 0 rfl ty24 rfl rfl rfl ?_)
                refine StillVC.run (StillVC.loadON o1921 7 rfl ty24 rfl rfl rfl ?_)
                refine CallVC.ret (mul_spec (a1, a2) (u1, u2) _ ha (okP_i64 ku)) ?_
                rintro _ h101 ⟨rfl, oc101⟩
                have p101 := oc101.thenE (by assumption)
                rw [mulR_ok ka ku, qa, qu, show A * (B + C) = A * B + A * C by grind, hx100]
                (refine RunVC.alloc p101 ty24 ?_; intro b1940 m1940 o1940)
                (refine RunVC.storeL o1940 12 rfl ty24 rfl (by decide) (And.intro ⟨rfl, rfl⟩ ?_); intro m1941 o1941)
                refine StillVC.run (StillVC.loadON o1941 5 rfl ty24 rfl rfl rfl ?_)
                refine StillVC.run (StillVC.loadON o1941 9 rfl ty24 rfl rfl rfl ?_)
                refine CallVC.ret (add_spec (m1, m2) (z1, z2) _ (okP_i64 km) (okP_i64 kz)) ?_
                rintro _ h102 ⟨rfl, oc102⟩
                have p102 := oc102.thenE (by assumption)
                rw [addR_ok km kz, qm, qz, hx100]
                (refine RunVC.alloc p102 ty24 ?_; intro b1960 m1960 o1960)
                (refine RunVC.storeL o1960 13 rfl ty24 rfl (by decide) (And.intro ⟨rfl, rfl⟩ ?_); intro m1961 o1961)
                refine Br.tt ?_
                refine StillVC.run (StillVC.loadON o1961 12 rfl ty24 rfl rfl rfl ?_)
                refine StillVC.run (StillVC.loadON o1961 13 rfl ty24 rfl rfl rfl ?_)
                refine StillVC.run (StillVC.eqS pl24 rfl rfl rfl rfl ?_)
                refine Br.ttE (by first | omega | (simp; done)) ?_
                refine RetVC.one rfl ?_
                exact ⟨by first | rfl | simp, Own.sel (by assumption) [] rfl⟩
              · skip
                obtain ⟨x103, y103, l103, hx103, _⟩ := packR_two (A * (B * C))
                (refine RunVC.alloc p96 ty24 ?_; intro b1980 m1980 o1980)
                (refine RunVC.storeL o1980 9 rfl ty24 rfl (by decide) (And.intro ⟨rfl, rfl⟩ ?_); intro m1981 o1981)
                refine Br.ff ?_
                refine Br.ff ?_
                refine Br.dec (fun c1982 => ?_) (fun hc => absurd (by omega) hc)
                refine Br.dec (fun c1983 => ?_) (fun hc => absurd (by omega) hc)
                refine StillVC.run (StillVC.loadON o1981 5 rfl ty24 rfl rfl rfl ?_)
                refine StillVC.run (StillVC.loadON o1981 2 rfl ty24 rfl rfl rfl ?_)
                refine CallVC.ret (mul_spec (m1, m2) (c1, c2) _ (okP_i64 km) hc) ?_
                rintro _ h104 ⟨rfl, oc104⟩
                have p104 := oc104.thenE (by assumption)
                rw [mulR_ok km kc, qm, qc, show A * B * C = A * (B * C) by grind, hx103]
                (refine RunVC.alloc p104 ty24 ?_; intro b2000 m2000 o2000)
                (refine RunVC.storeL o2000 10 rfl ty24 rfl (by decide) (And.intro ⟨rfl, rfl⟩ ?_); intro m2001 o2001)
                refine StillVC.run (StillVC.loadON o2001 0 rfl ty24 rfl rfl rfl ?_)
                refine StillVC.run (StillVC.loadON o2001 8 rfl ty24 rfl rfl rfl ?_)
                refine CallVC.ret (mul_spec (a1, a2) (w1, w2) _ ha (okP_i64 kw)) ?_
                rintro _ h105 ⟨rfl, oc105⟩
                have p105 := oc105.thenE (by assumption)
                rw [mulR_ok ka kw, qa, qw, hx103]
                (refine RunVC.alloc p105 ty24 ?_; intro b2020 m2020 o2020)
                (refine RunVC.storeL o2020 11 rfl ty24 rfl (by decide) (And.intro ⟨rfl, rfl⟩ ?_); intro m2021 o2021)
                refine StillVC.run (StillVC.loadON o2021 10 rfl ty24 rfl rfl rfl ?_)
                refine StillVC.run (StillVC.loadON o2021 11 rfl ty24 rfl rfl rfl ?_)
                refine StillVC.run (StillVC.neS pl24 rfl rfl rfl rfl ?_)
                refine Br.ffE (by first | omega | (simp; done)) ?_
                refine Br.ndec (fun hc => absurd (by first | omega | assumption | decide | exact rfl) hc) (fun c2026 => ?_)
                refine Br.dec (fun c2027 => ?_) (fun hc => absurd (by omega) hc)
                refine Br.dec (fun c2028 => ?_) (fun hc => absurd (by omega) hc)
                refine Br.ff ?_
                refine RetVC.one rfl ?_
                exact ⟨by first | rfl | simp, Own.sel (by assumption) [] rfl⟩
            · skip
              rcases hzk with ⟨rfl, kz, qz⟩ | ⟨rfl, rfl, rfl, _⟩
              · skip
                obtain ⟨x106, y106, l106, hx106, _⟩ := packR_two (A * B + A * C)
                (refine RunVC.alloc p96 ty24 ?_; intro b2040 m2040 o2040)
                (refine RunVC.storeL o2040 9 rfl ty24 rfl (by decide) (And.intro ⟨rfl, rfl⟩ ?_); intro m2041 o2041)
                refine Br.ff ?_
                refine Br.ff ?_
                refine Br.dec (fun c2042 => ?_) (fun hc => absurd (by omega) hc)
                refine Br.ff ?_
                refine Br.dec (fun c2043 => ?_) (fun hc => absurd (by omega) hc)
                refine Br.dec (fun c2044 => ?_) (fun hc => absurd (by omega) hc)
                refine Br.dec (fun c2045 => ?_) (fun hc => absurd (by omega) hc)
                refine StillVC.run (StillVC.loadON o2041 0 rfl ty24 rfl rfl rfl ?_)
                refine StillVC.run (StillVC.loadON o2041 7 rfl ty24 rfl rfl rfl ?_)
                refine CallVC.ret (mul_spec (a1, a2) (u1, u2) _ ha (okP_i64 ku)) ?_
                rintro _ h107 ⟨rfl, oc107⟩
                have p107 := oc107.thenE (by assumption)
                rw [mulR_ok ka ku, qa, qu, show A * (B + C) = A * B + A * C by grind, hx106]
                (refine RunVC.alloc p107 ty24 ?_; intro b2060 m2060 o2060)
                (refine RunVC.storeL o2060 10 rfl ty24 rfl (by decide) (And.intro ⟨rfl, rfl⟩ ?_); intro m2061 o2061)
                refine StillVC.run (StillVC.loadON o2061 5 rfl ty24 rfl rfl rfl ?_)
                refine StillVC.run (StillVC.loadON o2061 9 rfl ty24 rfl rfl rfl ?_)
                refine CallVC.ret (add_spec (m1, m2) (z1, z2) _ (okP_i64 km) (okP_i64 kz)) ?_
                rintro _ h108 ⟨rfl, oc108⟩
                have p108 := oc108.thenE (by assumption)
                rw [addR_ok km kz, qm, qz, hx106]
                (refine RunVC.alloc p108 ty24 ?_; intro b2080 m2080 o2080)
                (refine RunVC.storeL o2080 11 rfl ty24 rfl (by decide) (And.intro ⟨rfl, rfl⟩ ?_); intro m2081 o2081)
                refine Br.tt ?_
                refine StillVC.run (StillVC.loadON o2081 10 rfl ty24 rfl rfl rfl ?_)
                refine StillVC.run (StillVC.loadON o2081 11 rfl ty24 rfl rfl rfl ?_)
                refine StillVC.run (StillVC.eqS pl24 rfl rfl rfl rfl ?_)
                refine Br.ttE (by first | omega | (simp; done)) ?_
                refine RetVC.one rfl ?_
                exact ⟨by first | rfl | simp, Own.sel (by assumption) [] rfl⟩
              · skip
                (refine RunVC.alloc p96 ty24 ?_; intro b2100 m2100 o2100)
                (refine RunVC.storeL o2100 9 rfl ty24 rfl (by decide) (And.intro ⟨rfl, rfl⟩ ?_); intro m2101 o2101)
                refine Br.ff ?_
                refine Br.ff ?_
                refine Br.dec (fun c2102 => ?_) (fun hc => absurd (by omega) hc)
                refine Br.ff ?_
                refine Br.dec (fun c2103 => ?_) (fun hc => absurd (by omega) hc)
                refine Br.dec (fun c2104 => ?_) (fun hc => absurd (by omega) hc)
                refine Br.ff ?_
                refine RetVC.one rfl ?_
                exact ⟨by first | rfl | simp, Own.sel (by assumption) [] rfl⟩
          · skip
            rcases hwj with ⟨rfl, kw, qw⟩ | ⟨rfl, rfl, rfl, _⟩
            · skip
              rcases hzk with ⟨rfl, kz, qz⟩ | ⟨rfl, rfl, rfl, _⟩
              · skip
                obtain ⟨x109, y109, l109, hx109, _⟩ := packR_two (A * (B * C))
                (refine RunVC.alloc p96 ty24 ?_; intro b2120 m2120 o2120)
                (refine RunVC.storeL o2120 9 rfl ty24 rfl (by decide) (And.intro ⟨rfl, rfl⟩ ?_); intro m2121 o2121)
                refine Br.ff ?_
                refine Br.ff ?_
                refine Br.dec (fun c2122 => ?_) (fun hc => absurd (by omega) hc)
                refine Br.dec (fun c2123 => ?_) (fun hc => absurd (by omega) hc)
                refine StillVC.run (StillVC.loadON o2121 5 rfl ty24 rfl rfl rfl ?_)
                refine StillVC.run (StillVC.loadON o2121 2 rfl ty24 rfl rfl rfl ?_)
                refine CallVC.ret (mul_spec (m1, m2) (c1, c2) _ (okP_i64 km) hc) ?_
                rintro _ h110 ⟨rfl, oc110⟩
                have p110 := oc110.thenE (by assumption)
                rw [mulR_ok km kc, qm, qc, show A * B * C = A * (B * C) by grind, hx109]
                (refine RunVC.alloc p110 ty24 ?_; intro b2140 m2140 o2140)
                (refine RunVC.storeL o2140 10 rfl ty24 rfl (by decide) (And.intro ⟨rfl, rfl⟩ ?_); intro m2141 o2141)
                refine StillVC.run (StillVC.loadON o2141 0 rfl ty24 rfl rfl rfl ?_)
                refine StillVC.run (StillVC.loadON o2141 8 rfl ty24 rfl rfl rfl ?_)
                refine CallVC.ret (mul_spec (a1, a2) (w1, w2) _ ha (okP_i64 kw)) ?_
                rintro _ h111 ⟨rfl, oc111⟩
                have p111 := oc111.thenE (by assumption)
                rw [mulR_ok ka kw, qa, qw, hx109]
                (refine RunVC.alloc p111 ty24 ?_; intro b2160 m2160 o2160)
                (refine RunVC.storeL o2160 11 rfl ty24 rfl (by decide) (And.intro ⟨rfl, rfl⟩ ?_); intro m2161 o2161)
                refine StillVC.run (StillVC.loadON o2161 10 rfl ty24 rfl rfl rfl ?_)
                refine StillVC.run (StillVC.loadON o2161 11 rfl ty24 rfl rfl rfl ?_)
                refine StillVC.run (StillVC.neS pl24 rfl rfl rfl rfl ?_)
                refine Br.ffE (by first | omega | (simp; done)) ?_
                refine Br.ndec (fun hc => absurd (by first | omega | assumption | decide | exact rfl) hc) (fun c2166 => ?_)
                refine Br.dec (fun c2167 => ?_) (fun hc => absurd (by omega) hc)
                refine Br.ff ?_
                refine Br.ff ?_
                refine RetVC.one rfl ?_
                exact ⟨by first | rfl | simp, Own.sel (by assumption) [] rfl⟩
              · skip
                obtain ⟨x112, y112, l112, hx112, _⟩ := packR_two (A * (B * C))
                (refine RunVC.alloc p96 ty24 ?_; intro b2180 m2180 o2180)
                (refine RunVC.storeL o2180 9 rfl ty24 rfl (by decide) (And.intro ⟨rfl, rfl⟩ ?_); intro m2181 o2181)
                refine Br.ff ?_
                refine Br.ff ?_
                refine Br.dec (fun c2182 => ?_) (fun hc => absurd (by omega) hc)
                refine Br.dec (fun c2183 => ?_) (fun hc => absurd (by omega) hc)
                refine StillVC.run (StillVC.loadON o2181 5 rfl ty24 rfl rfl rfl ?_)
                refine StillVC.run (StillVC.loadON o2181 2 rfl ty24 rfl rfl rfl ?_)
                refine CallVC.ret (mul_spec (m1, m2) (c1, c2) _ (okP_i64 km) hc) ?_
                rintro _ h113 ⟨rfl, oc113⟩
                have p113 := oc113.thenE (by assumption)
                rw [mulR_ok km kc, qm, qc, show A * B * C = A * (B * C) by grind, hx112]
                (refine RunVC.alloc p113 ty24 ?_; intro b2200 m2200 o2200)
                (refine RunVC.storeL o2200 10 rfl ty24 rfl (by decide) (And.intro ⟨rfl, rfl⟩ ?_); intro m2201 o2201)
                refine StillVC.run (StillVC.loadON o2201 0 rfl ty24 rfl rfl rfl ?_)
                refine StillVC.run (StillVC.loadON o2201 8 rfl ty24 rfl rfl rfl ?_)
                refine CallVC.ret (mul_spec (a1, a2) (w1, w2) _ ha (okP_i64 kw)) ?_
                rintro _ h114 ⟨rfl, oc114⟩
                have p114 := oc114.thenE (by assumption)
                rw [mulR_ok ka kw, qa, qw, hx112]
                (refine RunVC.alloc p114 ty24 ?_; intro b2220 m2220 o2220)
                (refine RunVC.storeL o2220 11 rfl ty24 rfl (by decide) (And.intro ⟨rfl, rfl⟩ ?_); intro m2221 o2221)
                refine StillVC.run (StillVC.loadON o2221 10 rfl ty24 rfl rfl rfl ?_)
                refine StillVC.run (StillVC.loadON o2221 11 rfl ty24 rfl rfl rfl ?_)
                refine StillVC.run (StillVC.neS pl24 rfl rfl rfl rfl ?_)
                refine Br.ffE (by first | omega | (simp; done)) ?_
                refine Br.ndec (fun hc => absurd (by first | omega | assumption | decide | exact rfl) hc) (fun c2226 => ?_)
                refine Br.dec (fun c2227 => ?_) (fun hc => absurd (by omega) hc)
                refine Br.ff ?_
                refine Br.ff ?_
                refine RetVC.one rfl ?_
                exact ⟨by first | rfl | simp, Own.sel (by assumption) [] rfl⟩
            · skip
              rcases hzk with ⟨rfl, kz, qz⟩ | ⟨rfl, rfl, rfl, _⟩
              · skip
                (refine RunVC.alloc p96 ty24 ?_; intro b2240 m2240 o2240)
                (refine RunVC.storeL o2240 9 rfl ty24 rfl (by decide) (And.intro ⟨rfl, rfl⟩ ?_); intro m2241 o2241)
                refine Br.ff ?_
                refine Br.ff ?_
                refine Br.dec (fun c2242 => ?_) (fun hc => absurd (by omega) hc)
                refine Br.ff ?_
                refine Br.dec (fun c2243 => ?_) (fun hc => absurd (by omega) hc)
                refine Br.ff ?_
                refine Br.ff ?_
                refine RetVC.one rfl ?_
                exact ⟨by first | rfl | simp, Own.sel (by assumption) [] rfl⟩
              · skip
                (refine RunVC.alloc p96 ty24 ?_; intro b2260 m2260 o2260)
                (refine RunVC.storeL o2260 9 rfl ty24 rfl (by decide) (And.intro ⟨rfl, rfl⟩ ?_); intro m2261 o2261)
                refine Br.ff ?_
                refine Br.ff ?_
                refine Br.dec (fun c2262 => ?_) (fun hc => absurd (by omega) hc)
                refine Br.ff ?_
                refine Br.dec (fun c2263 => ?_) (fun hc => absurd (by omega) hc)
                refine Br.ff ?_
                refine Br.ff ?_
                refine RetVC.one rfl ?_
                exact ⟨by first | rfl | simp, Own.sel (by assumption) [] rfl⟩
        · skip
          refine Br.dec (fun c2280 => ?_) (fun hc => absurd (by omega) hc)
          refine StillVC.run (StillVC.fieldAddr st24 rfl rfl rfl ?_)
          refine StillVC.run (StillVC.loadO p9 1 rfl ty3 rfl rfl ?_)
          refine Br.ndec (fun c2283 => ?_) (fun hc => absurd hc (by first | omega | assumption | decide | exact rfl))
          refine StillVC.run (StillVC.loadON p9 5 rfl ty24 rfl rfl rfl ?_)
          refine StillVC.run (StillVC.loadON p9 1 rfl ty24 rfl rfl rfl ?_)
          refine CallVC.ret (div_spec (m1, m2) (b1, b2) _ (okP_i64 km) hb) ?_
          rintro _ h115 ⟨rfl, oc115⟩
          have p115 := oc115.thenE (by assumption)
          rw [divR_ok km kb hb0, qm, qb, show A * B / B = ofP (a1, a2) by rw [qa]; have := fun e => hb0 ((ofP_zero kb).2 (qb.trans e)); grind, packR_ofP ka]
          (refine RunVC.alloc p115 ty24 ?_; intro b2300 m2300 o2300)
          (refine RunVC.storeL o2300 7 rfl ty24 rfl (by decide) (And.intro ⟨rfl, rfl⟩ ?_); intro m2301 o2301)
          refine StillVC.run (StillVC.loadON o2301 7 rfl ty24 rfl rfl rfl ?_)
          refine StillVC.run (StillVC.loadON o2301 0 rfl ty24 rfl rfl rfl ?_)
          refine StillVC.run (StillVC.neS pl24 rfl rfl rfl rfl ?_)
          refine Br.ffE (by first | omega | (simp; done)) ?_
          refine Br.ndec (fun hc => absurd (by first | omega | assumption | decide | exact rfl) hc) (fun c2306 => ?_)
          refine StillVC.run (StillVC.loadON o2301 1 rfl ty24 rfl rfl rfl ?_)
          refine StillVC.run (StillVC.loadON o2301 2 rfl ty24 rfl rfl rfl ?_)
          refine CallVC.ret (add_spec (b1, b2) (c1, c2) _ hb hc) ?_
          rintro _ h116 ⟨rfl, oc116⟩
          have p116 := oc116.thenE (by assumption)
          rw [addR_ok kb kc, qb, qc, hu]
          (refine RunVC.alloc p116 ty24 ?_; intro b2320 m2320 o2320)
          (refine RunVC.storeL o2320 8 rfl ty24 rfl (by decide) (And.intro ⟨rfl, rfl⟩ ?_); intro m2321 o2321)
          refine StillVC.run (StillVC.loadON o2321 1 rfl ty24 rfl rfl rfl ?_)
          refine StillVC.run (StillVC.loadON o2321 2 rfl ty24 rfl rfl rfl ?_)
          refine CallVC.ret (mul_spec (b1, b2) (c1, c2) _ hb hc) ?_
          rintro _ h117 ⟨rfl, oc117⟩
          have p117 := oc117.thenE (by assumption)
          rw [mulR_ok kb kc, qb, qc, hw]
          (refine RunVC.alloc p117 ty24 ?_; intro b2340 m2340 o2340)
          (refine RunVC.storeL o2340 9 rfl ty24 rfl (by decide) (And.intro ⟨rfl, rfl⟩ ?_); intro m2341 o2341)
          refine StillVC.run (StillVC.loadON o2341 0 rfl ty24 rfl rfl rfl ?_)
          refine StillVC.run (StillVC.loadON o2341 2 rfl ty24 rfl rfl rfl ?_)
          refine CallVC.ret (mul_spec (a1, a2) (c1, c2) _ ha hc) ?_
          rintro _ h118 ⟨rfl, oc118⟩
          have p118 := oc118.thenE (by assumption)
          rw [mulR_ok ka kc, qa, qc, hz]
          rcases hui with ⟨rfl, ku, qu⟩ | ⟨rfl, rfl, rfl, _⟩
          · skip
            rcases hwj with ⟨rfl, kw, qw⟩ | ⟨rfl, rfl, rfl, _⟩
            · skip
              rcases hzk with ⟨rfl, kz, qz⟩ | ⟨rfl, rfl, rfl, _⟩
              · skip
                obtain ⟨x119, y119, l119, hx119, _⟩ := packR_two (A * (B * C))
                (refine RunVC.alloc p118 ty24 ?_; intro b2360 m2360 o2360)
                (refine RunVC.storeL o2360 10 rfl ty24 rfl (by decide) (And.intro ⟨rfl, rfl⟩ ?_); intro m2361 o2361)
                refine Br.ff ?_
                refine Br.ff ?_
                refine Br.dec (fun c2362 => ?_) (fun hc => absurd (by omega) hc)
                refine Br.dec (fun c2363 => ?_) (fun hc => absurd (by omega) hc)
                refine StillVC.run (StillVC.loadON o2361 5 rfl ty24 rfl rfl rfl ?_)
                refine StillVC.run (StillVC.loadON o2361 2 rfl ty24 rfl rfl rfl ?_)
                refine CallVC.ret (mul_spec (m1, m2) (c1, c2) _ (okP_i64 km) hc) ?_
                rintro _ h120 ⟨rfl, oc120⟩
                have p120 := oc120.thenE (by assumption)
                rw [mulR_ok km kc, qm, qc, show A * B * C = A * (B * C) by grind, hx119]
                (refine RunVC.alloc p120 ty24 ?_; intro b2380 m2380 o2380)
                (refine RunVC.storeL o2380 11 rfl ty24 rfl (by decide) (And.intro ⟨rfl, rfl⟩ ?_); intro m2381 o2381)
                refine StillVC.run (StillVC.loadON o2381 0 rfl ty24 rfl rfl rfl ?_)
                refine StillVC.run (StillVC.loadON o2381 9 rfl ty24 rfl rfl rfl ?_)
                refine CallVC.ret (mul_spec (a1, a2) (w1, w2) _ ha (okP_i64 kw)) ?_
                rintro _ h121 ⟨rfl, oc121⟩
                have p121 := oc121.thenE (by assumption)
                rw [mulR_ok ka kw, qa, qw, hx119]
                obtain ⟨x122, y122, l122, hx122, _⟩ := packR_two (A * B + A * C)
                (refine RunVC.alloc p121 ty24 ?_; intro b2400 m2400 o2400)
                (refine RunVC.storeL o2400 12 rfl ty24 rfl (by decide) (And.intro ⟨rfl, rfl⟩ ?_); intro m2401 o2401)
                refine StillVC.run (StillVC.loadON o2401 11 rfl ty24 rfl rfl rfl ?_)
                refine StillVC.run (StillVC.loadON o2401 12 rfl ty24 rfl rfl rfl ?_)
                refine StillVC.run (StillVC.neS pl24 rfl rfl rfl rfl ?_)
                refine Br.ffE (by first | omega | (simp; done)) ?_
                refine Br.ndec (fun hc => absurd (by first | omega | assumption | decide | exact rfl) hc) (fun c2406 => ?_)
                refine Br.dec (fun c2407 => ?_) (fun hc => absurd (by omega) hc)
                refine Br.dec (fun c2408 => ?_) (fun hc => absurd (by omega) hc)
                refine Br.dec (fun c2409 => ?_) (fun hc => absurd (by omega) hc)
                refine StillVC.run (StillVC.loadON o2401 0 rfl ty24 rfl rfl rfl ?_)
                refine StillVC.run (StillVC.loadON o2401 8 rfl ty24 rfl rfl rfl ?_)
                refine CallVC.ret (mul_spec (a1, a2) (u1, u2) _ ha (okP_i64 ku)) ?_
                rintro _ h123 ⟨rfl, oc123⟩
                have p123 := oc123.thenE (by assumption)
                rw [mulR_ok ka ku, qa, qu, show A * (B + C) = A * B + A * C by grind, hx122]
                (refine RunVC.alloc p123 ty24 ?_; intro b2420 m2420 o2420)
                (refine RunVC.storeL o2420 13 rfl ty24 rfl (by decide) (And.intro ⟨rfl, rfl⟩ ?_); intro m2421 o2421)
                refine StillVC.run (StillVC.loadON o2421 5 rfl ty24 rfl rfl rfl ?_)
                refine StillVC.run (StillVC.loadON o2421 10 rfl ty24 rfl rfl rfl ?_)
                refine CallVC.ret (add_spec (m1, m2) (z1, z2) _ (okP_i64 km) (okP_i64 kz)) ?_
                rintro _ h124 ⟨rfl, oc124⟩
                have p124 := oc124.thenE (by assumption)
                rw [addR_ok km kz, qm, qz, hx122]
                (refine RunVC.alloc p124 ty24 ?_; intro b2440 m2440 o2440)
                (refine RunVC.storeL o2440 14 rfl ty24 rfl (by decide) (And.intro ⟨rfl, rfl⟩ ?_); intro m2441 o2441)
                refine Br.tt ?_
                refine StillVC.run (StillVC.loadON o2441 13 rfl ty24 rfl rfl rfl ?_)
                refine StillVC.run (StillVC.loadON o2441 14 rfl ty24 rfl rfl rfl ?_)
                refine StillVC.run (StillVC.eqS pl24 rfl rfl rfl rfl ?_)
                refine Br.ttE (by first | omega | (simp; done)) ?_
                refine RetVC.one rfl ?_
                exact ⟨by first | rfl | simp, Own.sel (by assumption) [] rfl⟩
              · skip
                obtain ⟨x125, y125, l125, hx125, _⟩ := packR_two (A * (B * C))
                (refine RunVC.alloc p118 ty24 ?_; intro b2460 m2460 o2460)
                (refine RunVC.storeL o2460 10 rfl ty24 rfl (by decide) (And.intro ⟨rfl, rfl⟩ ?_); intro m2461 o2461)
                refine Br.ff ?_
                refine Br.ff ?_
                refine Br.dec (fun c2462 => ?_) (fun hc => absurd (by omega) hc)
                refine Br.dec (fun c2463 => ?_) (fun hc => absurd (by omega) hc)
                refine StillVC.run (StillVC.loadON o2461 5 rfl ty24 rfl rfl rfl ?_)
                refine StillVC.run (StillVC.loadON o2461 2 rfl ty24 rfl rfl rfl ?_)
                refine CallVC.ret (mul_spec (m1, m2) (c1, c2) _ (okP_i64 km) hc) ?_
                rintro _ h126 ⟨rfl, oc126⟩
                have p126 := oc126.thenE (by assumption)
                rw [mulR_ok km kc, qm, qc, show A * B * C = A * (B * C) by grind, hx125]
                (refine RunVC.alloc p126 ty24 ?_; intro b2480 m2480 o2480)
                (refine RunVC.storeL o2480 11 rfl ty24 rfl (by decide) (And.intro ⟨rfl, rfl⟩ ?_); intro m2481 o2481)
                refine StillVC.run (StillVC.loadON o2481 0 rfl ty24 rfl rfl rfl ?_)
                refine StillVC.run (StillVC.loadON o2481 9 rfl ty24 rfl rfl rfl ?_)
                refine CallVC.ret (mul_spec (a1, a2) (w1, w2) _ ha (okP_i64 kw)) ?_
                rintro _ h127 ⟨rfl, oc127⟩
                have p127 := oc127.thenE (by assumption)
                rw [mulR_ok ka kw, qa, qw, hx125]
                (refine RunVC.alloc p127 ty24 ?_; intro b2500 m2500 o2500)
                (refine RunVC.storeL o2500 12 rfl ty24 rfl (by decide) (And.intro ⟨rfl, rfl⟩ ?_); intro m2501 o2501)
                refine StillVC.run (StillVC.loadON o2501 11 rfl ty24 rfl rfl rfl ?_)
                refine StillVC.run (StillVC.loadON o2501 12 rfl ty24 rfl rfl rfl ?_)
                refine StillVC.run (StillVC.neS pl24 rfl rfl rfl rfl ?_)
                refine Br.ffE (by first | omega | (simp; done)) ?_
                refine Br.ndec (fun hc => absurd (by first | omega | assumption | decide | exact rfl) hc) (fun c2506 => ?_)
                refine Br.dec (fun c2507 => ?_) (fun hc => absurd (by omega) hc)
                refine Br.dec (fun c2508 => ?_) (fun hc => absurd (by omega) hc)
                refine Br.ff ?_
                refine RetVC.one rfl ?_
                exact ⟨by first | rfl | simp, Own.sel (by assumption) [] rfl⟩
            · skip
              rcases hzk with ⟨rfl, kz, qz⟩ | ⟨rfl, rfl, rfl, _⟩
              · skip
                obtain ⟨x128, y128, l128, hx128, _⟩ := packR_two (A * B + A * C)
                (refine RunVC.alloc p118 ty24 ?_; intro b2520 m2520 o2520)
                (refine RunVC.storeL o2520 10 rfl ty24 rfl (by decide) (And.intro ⟨rfl, rfl⟩ ?_); intro m2521 o2521)
                refine Br.ff ?_
                refine Br.ff ?_
                refine Br.dec (fun c2522 => ?_) (fun hc => absurd (by omega) hc)
                refine Br.ff ?_
                refine Br.dec (fun c2523 => ?_) (fun hc => absurd (by omega) hc)
                refine Br.dec (fun c2524 => ?_) (fun hc => absurd (by omega) hc)
                refine Br.dec (fun c2525 => ?_) (fun hc => absurd (by omega) hc)
                refine StillVC.run (StillVC.loadON o2521 0 rfl ty24 rfl rfl rfl ?_)
                refine StillVC.run (StillVC.loadON o2521 8 rfl ty24 rfl rfl rfl ?_)
                refine CallVC.ret (mul_spec (a1, a2) (u1, u2) _ ha (okP_i64 ku)) ?_
                rintro _ h129 ⟨rfl, oc129⟩
                have p129 := oc129.thenE (by assumption)
                rw [mulR_ok ka ku, qa, qu, show A * (B + C) = A * B + A * C by grind, hx128]
                (refine RunVC.alloc p129 ty24 ?_; intro b2540 m2540 o2540)
                (refine RunVC.storeL o2540 11 rfl ty24 rfl (by decide) (And.intro ⟨rfl, rfl⟩ ?_); intro m2541 o2541)
                refine StillVC.run (StillVC.loadON o2541 5 rfl ty24 rfl rfl rfl ?_)
                refine StillVC.run (StillVC.loadON o2541 10 rfl ty24 rfl rfl rfl ?_)
                refine CallVC.ret (add_spec (m1, m2) (z1, z2) _ (okP_i64 km) (okP_i64 kz)) ?_
                rintro _ h130 ⟨rfl, oc130⟩
                have p130 := oc130.thenE (by assumption)
                rw [addR_ok km kz, qm, qz, hx128]
                (refine RunVC.alloc p130 ty24 ?_; intro b2560 m2560 o2560)
                (refine RunVC.storeL o2560 12 rfl ty24 rfl (by decide) (And.intro ⟨rfl, rfl⟩ ?_); intro m2561 o2561)
                refine Br.tt ?_
                refine StillVC.run (StillVC.loadON o2561 11 rfl ty24 rfl rfl rfl ?_)
                refine StillVC.run (StillVC.loadON o2561 12 rfl ty24 rfl rfl rfl ?_)
                refine StillVC.run (StillVC.eqS pl24 rfl rfl rfl rfl ?_)
                refine Br.ttE (by first | omega | (simp; done)) ?_
                refine RetVC.one rfl ?_
                exact ⟨by first | rfl | simp, Own.sel (by assumption) [] rfl⟩
              · skip
                (refine RunVC.alloc p118 ty24 ?_; intro b2580 m2580 o2580)
                (refine RunVC.storeL o2580 10 rfl ty24 rfl (by decide) (And.intro ⟨rfl, rfl⟩ ?_); intro m2581 o2581)
                refine Br.ff ?_
                refine Br.ff ?_
                refine Br.dec (fun c2582 => ?_) (fun hc => absurd (by omega) hc)
                refine Br.ff ?_
                refine Br.dec (fun c2583 => ?_) (fun hc => absurd (by omega) hc)
                refine Br.dec (fun c2584 => ?_) (fun hc => absurd (by omega) hc)
                refine Br.ff ?_
                refine RetVC.one rfl ?_
                exact ⟨by first | rfl | simp, Own.sel (by assumption) [] rfl⟩
          · skip
            rcases hwj with ⟨rfl, kw, qw⟩ | ⟨rfl, rfl, rfl, _⟩
            · skip
              rcases hzk with ⟨rfl, kz, qz⟩ | ⟨rfl, rfl, rfl, _⟩
              · skip
                obtain ⟨x131, y131, l131, hx131, _⟩ := packR_two (A * (B * C))
                (refine RunVC.alloc p118 ty24 ?_; intro b2600 m2600 o2600)
                (refine RunVC.storeL o2600 10 rfl ty24 rfl (by decide) (And.intro ⟨rfl, rfl⟩ ?_); intro m2601 o2601)
                refine Br.ff ?_
                refine Br.ff ?_
                refine Br.dec (fun c2602 => ?_) (fun hc => absurd (by omega) hc)
                refine Br.dec (fun c2603 => ?_) (fun hc => absurd (by omega) hc)
                refine StillVC.run (StillVC.loadON o2601 5 rfl ty24 rfl rfl rfl ?_)
                refine StillVC.run (StillVC.loadON o2601 2 rfl ty24 rfl rfl rfl ?_)
                refine CallVC.ret (mul_spec (m1, m2) (c1, c2) _ (okP_i64 km) hc) ?_
                rintro _ h132 ⟨rfl, oc132⟩
                have p132 := oc132.thenE (by assumption)
                rw [mulR_ok km kc, qm, qc, show A * B * C = A * (B * C) by grind, hx131]
                (refine RunVC.alloc p132 ty24 ?_; intro b2620 m2620 o2620)
                (refine RunVC.storeL o2620 11 rfl ty24 rfl (by decide) (And.intro ⟨rfl, rfl⟩ ?_); intro m2621 o2621)
                refine StillVC.run (StillVC.loadON o2621 0 rfl ty24 rfl rfl rfl ?_)
                refine StillVC.run (StillVC.loadON o2621 9 rfl ty24 rfl rfl rfl ?_)
                refine CallVC.ret (mul_spec (a1, a2) (w1, w2) _ ha (okP_i64 kw)) ?_
                rintro _ h133 ⟨rfl, oc133⟩
                have p133 := oc133.thenE (by assumption)
                rw [mulR_ok ka kw, qa, qw, hx131]
                (refine RunVC.alloc p133 ty24 ?_; intro b2640 m2640 o2640)
                (refine RunVC.storeL o2640 12 rfl ty24 rfl (by decide) (And.intro ⟨rfl, rfl⟩ ?_); intro m2641 o2641)
                refine StillVC.run (StillVC.loadON o2641 11 rfl ty24 rfl rfl rfl ?_)
                refine StillVC.run (StillVC.loadON o2641 12 rfl ty24 rfl rfl rfl ?_)
                refine StillVC.run (StillVC.neS pl24 rfl rfl rfl rfl ?_)
                refine Br.ffE (by first | omega | (simp; done)) ?_
                refine Br.ndec (fun hc => absurd (by first | omega | assumption | decide | exact rfl) hc) (fun c2646 => ?_)
                refine Br.dec (fun c2647 => ?_) (fun hc => absurd (by omega) hc)
                refine Br.ff ?_
                refine Br.ff ?_
                refine RetVC.one rfl ?_
                exact ⟨by first | rfl | simp, Own.sel (by assumption) [] rfl⟩
              · skip
                obtain ⟨x134, y134, l134, hx134, _⟩ := packR_two (A * (B * C))
                (refine RunVC.alloc p118 ty24 ?_; intro b2660 m2660 o2660)
                (refine RunVC.storeL o2660 10 rfl ty24 rfl (by decide) (And.intro ⟨rfl, rfl⟩ ?_); intro m2661 o2661)
                refine Br.ff ?_
                refine Br.ff ?_
                refine Br.dec (fun c2662 => ?_) (fun hc => absurd (by omega) hc)
                refine Br.dec (fun c2663 => ?_) (fun hc => absurd (by omega) hc)
                refine StillVC.run (StillVC.loadON o2661 5 rfl ty24 rfl rfl rfl ?_)
                refine StillVC.run (StillVC.loadON o2661 2 rfl ty24 rfl rfl rfl ?_)
                refine CallVC.ret (mul_spec (m1, m2) (c1, c2) _ (okP_i64 km) hc) ?_
                rintro _ h135 ⟨rfl, oc135⟩
                have p135 := oc135.thenE (by assumption)
                rw [mulR_ok km kc, qm, qc, show A * B * C = A * (B * C) by grind, hx134]
                (refine RunVC.alloc p135 ty24 ?_; intro b2680 m2680 o2680)
                (refine RunVC.storeL o2680 11 rfl ty24 rfl (by decide) (And.intro ⟨rfl, rfl⟩ ?_); intro m2681 o2681)
                refine StillVC.run (StillVC.loadON o2681 0 rfl ty24 rfl rfl rfl ?_)
                refine StillVC.run (StillVC.loadON o2681 9 rfl ty24 rfl rfl rfl ?_)
                refine CallVC.ret (mul_spec (a1, a2) (w1, w2) _ ha (okP_i64 kw)) ?_
                rintro _ h136 ⟨rfl, oc136⟩
                have p136 := oc136.thenE (by assumption)
                rw [mulR_ok ka kw, qa, qw, hx134]
                (refine RunVC.alloc p136 ty24 ?_; intro b2700 m2700 o2700)
                (refine RunVC.storeL o2700 12 rfl ty24 rfl (by decide) (And.intro ⟨rfl, rfl⟩ ?_); intro m2701 o2701)
                refine StillVC.run (StillVC.loadON o2701 11 rfl ty24 rfl rfl rfl ?_)
                refine StillVC.run (StillVC.loadON o2701 12 rfl ty24 rfl rfl rfl ?_)
                refine StillVC.run (StillVC.neS pl24 rfl rfl rfl rfl ?_)
                refine Br.ffE (by first | omega | (simp; done)) ?_
                refine Br.ndec (fun hc => absurd (by first | omega | assumption | decide | exact rfl) hc) (fun c2706 => ?_)
                refine Br.dec (fun c2707 => ?_) (fun hc => absurd (by omega) hc)
                refine Br.ff ?_
                refine Br.ff ?_
                refine RetVC.one rfl ?_
                exact ⟨by first | rfl | simp, Own.sel (by assumption) [] rfl⟩
            · skip
              rcases hzk with ⟨rfl, kz, qz⟩ | ⟨rfl, rfl, rfl, _⟩
              · skip
                (refine RunVC.alloc p118 ty24 ?_; intro b2720 m2720 o2720)
                (refine RunVC.storeL o2720 10 rfl ty24 rfl (by decide) (And.intro ⟨rfl, rfl⟩ ?_); intro m2721 o2721)
                refine Br.ff ?_
                refine Br.ff ?_
                refine Br.dec (fun c2722 => ?_) (fun hc => absurd (by omega) hc)
                refine Br.ff ?_
                refine Br.dec (fun c2723 => ?_) (fun hc => absurd (by omega) hc)
                refine Br.ff ?_
                refine Br.ff ?_
                refine RetVC.one rfl ?_
                exact ⟨by first | rfl | simp, Own.sel (by assumption) [] rfl⟩
              · skip
                (refine RunVC.alloc p118 ty24 ?_; intro b2740 m2740 o2740)
                (refine RunVC.storeL o2740 10 rfl ty24 rfl (by decide) (And.intro ⟨rfl, rfl⟩ ?_); intro m2741 o2741)
                refine Br.ff ?_
                refine Br.ff ?_
                refine Br.dec (fun c2742 => ?_) (fun hc => absurd (by omega) hc)
                refine Br.ff ?_
                refine Br.dec (fun c2743 => ?_) (fun hc => absurd (by omega) hc)
                refine Br.ff ?_
                refine Br.ff ?_
                refine RetVC.one rfl ?_
                exact ⟨by first | rfl | simp, Own.sel (by assumption) [] rfl⟩
      · skip
        refine Br.ff ?_
        refine Br.ff ?_
        refine StillVC.run (StillVC.loadON p9 1 rfl ty24 rfl rfl rfl ?_)
        refine StillVC.run (StillVC.loadON p9 2 rfl ty24 rfl rfl rfl ?_)
        refine CallVC.ret (add_spec (b1, b2) (c1, c2) _ hb hc) ?_
        rintro _ h137 ⟨rfl, oc137⟩
        have p137 := oc137.thenE (by assumption)
        rw [addR_ok kb kc, qb, qc, hu]
        (refine RunVC.alloc p137 ty24 ?_; intro b2780 m2780 o2780)
        (refine RunVC.storeL o2780 7 rfl ty24 rfl (by decide) (And.intro ⟨rfl, rfl⟩ ?_); intro m2781 o2781)
        refine StillVC.run (StillVC.loadON o2781 1 rfl ty24 rfl rfl rfl ?_)
        refine StillVC.run (StillVC.loadON o2781 2 rfl ty24 rfl rfl rfl ?_)
        refine CallVC.ret (mul_spec (b1, b2) (c1, c2) _ hb hc) ?_
        rintro _ h138 ⟨rfl, oc138⟩
        have p138 := oc138.thenE (by assumption)
        rw [mulR_ok kb kc, qb, qc, hw]
        (refine RunVC.alloc p138 ty24 ?_; intro b2800 m2800 o2800)
        (refine RunVC.storeL o2800 8 rfl ty24 rfl (by decide) (And.intro ⟨rfl, rfl⟩ ?_); intro m2801 o2801)
        refine StillVC.run (StillVC.loadON o2801 0 rfl ty24 rfl rfl rfl ?_)
        refine StillVC.run (StillVC.loadON o2801 2 rfl ty24 rfl rfl rfl ?_)
        refine CallVC.ret (mul_spec (a1, a2) (c1, c2) _ ha hc) ?_
        rintro _ h139 ⟨rfl, oc139⟩
        have p139 := oc139.thenE (by assumption)
        rw [mulR_ok ka kc, qa, qc, hz]
        rcases hui with ⟨rfl, ku, qu⟩ | ⟨rfl, rfl, rfl, _⟩
        · skip
          (refine RunVC.alloc p139 ty24 ?_; intro b2820 m2820 o2820)
          (refine RunVC.storeL o2820 9 rfl ty24 rfl (by decide) (And.intro ⟨rfl, rfl⟩ ?_); intro m2821 o2821)
          refine Br.ff ?_
          refine Br.ff ?_
          refine Br.ff ?_
          refine Br.ff ?_
          refine Br.ff ?_
          refine Br.ff ?_
          refine RetVC.one rfl ?_
          exact ⟨by first | rfl | simp, Own.sel (by assumption) [] rfl⟩
        · skip
          (refine RunVC.alloc p139 ty24 ?_; intro b2840 m2840 o2840)
          (refine RunVC.storeL o2840 9 rfl ty24 rfl (by decide) (And.intro ⟨rfl, rfl⟩ ?_); intro m2841 o2841)
          refine Br.ff ?_
          refine Br.ff ?_
          refine Br.ff ?_
          refine Br.ff ?_
          refine Br.ff ?_
          refine Br.ff ?_
          refine RetVC.one rfl ?_
          exact ⟨by first | rfl | simp, Own.sel (by assumption) [] rfl⟩

end Go.Proofs.YtemijanhigjmmaaDoor
