/-
  The statement RatioOrder of chapter 1, walked.
-/
import Derived.Test.YtemijanhigjmmaaDoorStructs
import Derived.Test.YtemijanhigjmmaaDoorFnRatPack
namespace Go.Proofs.YtemijanhigjmmaaDoor
open Go

theorem cmpR_ok {a b : Int × Int} (ha : okP a = true) (hb : okP b = true) : cmpR a b = if ofP a < ofP b then -1 else if ofP b < ofP a then 1 else 0 := if_pos ⟨ha, hb⟩

theorem cmpR_rng (a b : Int × Int) : -1 ≤ cmpR a b ∧ cmpR a b ≤ 1 := by
  unfold cmpR
  split
  · split
    · decide
    · split <;> decide
  · decide

theorem cmpR_rev (a b : Int × Int) : cmpR b a = -cmpR a b := by
  unfold cmpR
  by_cases ha : okP a = true
  · by_cases hb : okP b = true
    · simp only [ha, hb, and_self, if_true]
      by_cases h1 : ofP a < ofP b
      · have h2 : ¬ ofP b < ofP a := by grind
        simp [h1, h2]
      · by_cases h2 : ofP b < ofP a
        · simp [h1, h2]
        · simp [h1, h2]
    · simp [hb]
  · simp [ha]

theorem ofP_lt_irrefl (a : Rat) : ¬ a < a := by grind

theorem cmpR_zero {a b : Int × Int} (ha : okP a = true) (hb : okP b = true) : cmpR a b = 0 ↔ a = b := by
  rw [cmpR_ok ha hb]
  by_cases h1 : ofP a < ofP b
  · rw [if_pos h1]
    exact ⟨fun h => absurd h (by decide), fun h => absurd (h ▸ h1) (ofP_lt_irrefl _)⟩
  · rw [if_neg h1]
    by_cases h2 : ofP b < ofP a
    · rw [if_pos h2]
      exact ⟨fun h => absurd h (by decide), fun h => absurd (h ▸ h2) (ofP_lt_irrefl _)⟩
    · rw [if_neg h2]
      exact ⟨fun _ => ofP_inj ha hb (by grind), fun _ => rfl⟩

theorem mulpos {c1 c2 : Int} (kc : okP (c1, c2) = true) (hpos : ¬ c1 ≤ 0) (x y : Rat) : x < y ↔ x * ofP (c1, c2) < y * ofP (c1, c2) := by
  have h0 : 0 < ofP (c1, c2) := by
    have h1 := Rat.num_nonneg (q := ofP (c1, c2))
    have h2 := Rat.num_eq_zero (q := ofP (c1, c2))
    rw [ofP_num kc] at h1 h2
    simp only at h1 h2
    have h3 : 0 ≤ ofP (c1, c2) := h1.1 (by omega)
    have h4 : ofP (c1, c2) ≠ 0 := fun e => by have := h2.2 e; omega
    grind
  exact (Rat.mul_lt_mul_right h0).symm

theorem cmpR_le {a b : Int × Int} (ha : okP a = true) (hb : okP b = true) : cmpR a b ≤ 0 ↔ ofP a ≤ ofP b := by
  rw [cmpR_ok ha hb]
  by_cases h1 : ofP a < ofP b
  · rw [if_pos h1]
    exact ⟨fun _ => by grind, fun _ => by decide⟩
  · rw [if_neg h1]
    by_cases h2 : ofP b < ofP a
    · rw [if_pos h2]
      exact ⟨fun h => absurd h (by decide), fun h => by grind⟩
    · rw [if_neg h2]
      exact ⟨fun _ => by grind, fun _ => by decide⟩

theorem cmpR_same {a b c d : Int × Int} (ha : okP a = true) (hb : okP b = true) (hc : okP c = true) (hd : okP d = true) (h1 : ofP a < ofP b ↔ ofP c < ofP d) (h2 : ofP b < ofP a ↔ ofP d < ofP c) : cmpR c d = cmpR a b := by
  rw [cmpR_ok ha hb, cmpR_ok hc hd]
  simp only [h1, h2]

set_option maxHeartbeats 4000000 in
set_option maxRecDepth 100000 in
theorem order_spec (a b c : Int × Int) (h : Heap) (ha : i64P a) (hb : i64P b) (hc : i64P c) (ht : TabH h) (hv : VarH h) :
    SpecR Tryd.prog 4 [ratV a, ratV b, ratV c] h fun v h' => v = .bool true ∧ Own h [] h' := by
  obtain ⟨a1, a2⟩ := a
  obtain ⟨b1, b2⟩ := b
  obtain ⟨c1, c2⟩ := c
  show SpecR Tryd.prog 4 [.agg ⟨[.int .i64 a1, .int .i64 a2]⟩, .agg ⟨[.int .i64 b1, .int .i64 b2]⟩, .agg ⟨[.int .i64 c1, .int .i64 c2]⟩] h _
  refine Spec.enter Tryd.func4 rfl Tryd.ntmps4 (by kernel_rfl) ?_
  have o0 := Own.refl h
  (refine RunVC.boxO o0 rfl ?_; intro b10 m10 o10)
  (refine RunVC.boxO o10 rfl ?_; intro b11 m11 o11)
  (refine RunVC.boxO o11 rfl ?_; intro b12 m12 o12)
  refine CallVC.ret (head_spec _ (ht.ext (Own.ext (by assumption))) (hv.ext (Own.ext (by assumption)))) ?_
  rintro _ h1 ⟨rfl, oc1⟩
  have p1 := oc1.thenE (by assumption)
  refine StillVC.run (StillVC.loadON p1 0 rfl ty24 rfl rfl rfl ?_)
  refine CallVC.ret (valid_spec (a1, a2) _ ha) ?_
  rintro _ h2 ⟨rfl, oc2⟩
  have p2 := oc2.thenE (by assumption)
  cases ka : okP (a1, a2) with
  | false =>
    refine Br.tt ?_
    refine Br.tt ?_
    refine RetVC.one rfl ?_
    exact ⟨rfl, Own.sel (by assumption) [] rfl⟩
  | true =>
  refine Br.ff ?_
  refine StillVC.run (StillVC.loadON p2 1 rfl ty24 rfl rfl rfl ?_)
  refine CallVC.ret (valid_spec (b1, b2) _ hb) ?_
  rintro _ h3 ⟨rfl, oc3⟩
  have p3 := oc3.thenE (by assumption)
  cases kb : okP (b1, b2) with
  | false =>
    refine Br.tt ?_
    refine Br.tt ?_
    refine RetVC.one rfl ?_
    exact ⟨rfl, Own.sel (by assumption) [] rfl⟩
  | true =>
  refine Br.ff ?_
  refine StillVC.run (StillVC.loadON p3 2 rfl ty24 rfl rfl rfl ?_)
  refine CallVC.ret (valid_spec (c1, c2) _ hc) ?_
  rintro _ h4 ⟨rfl, oc4⟩
  have p4 := oc4.thenE (by assumption)
  cases kc : okP (c1, c2) with
  | false =>
    refine Br.tt ?_
    refine RetVC.one rfl ?_
    exact ⟨rfl, Own.sel (by assumption) [] rfl⟩
  | true =>
  refine Br.ff ?_
  refine StillVC.run (StillVC.loadON p4 0 rfl ty24 rfl rfl rfl ?_)
  refine StillVC.run (StillVC.loadON p4 1 rfl ty24 rfl rfl rfl ?_)
  refine CallVC.ret (cmp_spec (a1, a2) (b1, b2) _ ha hb) ?_
  rintro _ h5 ⟨rfl, oc5⟩
  have p5 := oc5.thenE (by assumption)
  have kr := cmpR_rng (a1, a2) (b1, b2)
  have kv := cmpR_rev (a1, a2) (b1, b2)
  have kz := cmpR_zero ka kb
  have kl := cmpR_le ka kb
  have klb := cmpR_le kb kc
  have klc := cmpR_le ka kc
  have ksame := fun c d => cmpR_same (c := c) (d := d) ka kb
  have ktr : cmpR (a1, a2) (b1, b2) ≤ 0 → cmpR (b1, b2) (c1, c2) ≤ 0 → cmpR (a1, a2) (c1, c2) ≤ 0 := fun x y => klc.2 (by have := kl.1 x; have := klb.1 y; grind)
  generalize cmpR (a1, a2) (b1, b2) = k at *
  have kd : decide (k = 0) = (decide (a1 = b1) && (decide (a2 = b2) && true)) := by
    rw [Bool.eq_iff_iff]
    simp [kz]
  refine Br.dec (fun hc => absurd hc (by omega)) (fun c90 => ?_)
  refine Br.dec (fun hc => absurd hc (by omega)) (fun c91 => ?_)
  refine StillVC.run (StillVC.loadON p5 0 rfl ty24 rfl rfl rfl ?_)
  refine StillVC.run (StillVC.loadON p5 1 rfl ty24 rfl rfl rfl ?_)
  refine StillVC.run (StillVC.eqS pl24 rfl rfl rfl rfl ?_)
  refine StillVC.run (StillVC.neB bool4 rfl rfl ?_)
  refine Br.ndec (fun hc => absurd (by first | omega | assumption | decide | exact rfl) hc) (fun c96 => ?_)
  refine StillVC.run (StillVC.loadON p5 1 rfl ty24 rfl rfl rfl ?_)
  refine StillVC.run (StillVC.loadON p5 0 rfl ty24 rfl rfl rfl ?_)
  refine CallVC.ret (cmp_spec (b1, b2) (a1, a2) _ hb ha) ?_
  rintro _ h6 ⟨rfl, oc6⟩
  have p6 := oc6.thenE (by assumption)
  rw [kv]
  refine Ar.i64 (by omega) (by omega) ?_
  refine Br.ndec (fun hc => absurd (by first | omega | assumption | decide | exact rfl) hc) (fun c100 => ?_)
  refine Br.dec (fun c101 => ?_) (fun c101 => ?_)
  refine StillVC.run (StillVC.loadON p6 1 rfl ty24 rfl rfl rfl ?_)
  refine StillVC.run (StillVC.loadON p6 2 rfl ty24 rfl rfl rfl ?_)
  rotate_left
  refine Br.ff ?_
  refine StillVC.run (StillVC.loadON p6 0 rfl ty24 rfl rfl rfl ?_)
  refine StillVC.run (StillVC.loadON p6 2 rfl ty24 rfl rfl rfl ?_)
  · skip
    obtain ⟨s1, s2, e, hs, hse⟩ := packR_two (ofP (a1, a2) + ofP (c1, c2))
    obtain ⟨t1, t2, f, hft, htf⟩ := packR_two (ofP (b1, b2) + ofP (c1, c2))
    obtain ⟨u1, u2, g, hu, hug⟩ := packR_two (ofP (a1, a2) * ofP (c1, c2))
    obtain ⟨v1, v2, i, hvi, hvv⟩ := packR_two (ofP (b1, b2) * ofP (c1, c2))
    refine CallVC.ret (add_spec (a1, a2) (c1, c2) _ ha hc) ?_
    rintro _ h21 ⟨rfl, oc21⟩
    have p21 := oc21.thenE (by assumption)
    rw [addR_ok ka kc, hs]
    (refine RunVC.alloc p21 ty24 ?_; intro b420 m420 o420)
    (refine RunVC.storeL o420 3 rfl ty24 rfl (by decide) (And.intro ⟨rfl, rfl⟩ ?_); intro m421 o421)
    refine StillVC.run (StillVC.loadON o421 1 rfl ty24 rfl rfl rfl ?_)
    refine StillVC.run (StillVC.loadON o421 2 rfl ty24 rfl rfl rfl ?_)
    refine CallVC.ret (add_spec (b1, b2) (c1, c2) _ hb hc) ?_
    rintro _ h22 ⟨rfl, oc22⟩
    have p22 := oc22.thenE (by assumption)
    rw [addR_ok kb kc, hft]
    rcases hse with ⟨rfl, ks, qs⟩ | ⟨rfl, rfl, rfl, _⟩
    · rcases htf with ⟨rfl, kt, qt⟩ | ⟨rfl, rfl, rfl, _⟩
      · skip
        (refine RunVC.alloc p22 ty24 ?_; intro b440 m440 o440)
        (refine RunVC.storeL o440 4 rfl ty24 rfl (by decide) (And.intro ⟨rfl, rfl⟩ ?_); intro m441 o441)
        refine Br.dec (fun c442 => ?_) (fun hc => absurd (by omega) hc)
        refine Br.dec (fun c443 => ?_) (fun hc => absurd (by omega) hc)
        refine StillVC.run (StillVC.loadON o441 3 rfl ty24 rfl rfl rfl ?_)
        refine StillVC.run (StillVC.loadON o441 4 rfl ty24 rfl rfl rfl ?_)
        refine CallVC.ret (cmp_spec (s1, s2) (t1, t2) _ (okP_i64 ks) (okP_i64 kt)) ?_
        rintro _ h23 ⟨rfl, oc23⟩
        have p23 := oc23.thenE (by assumption)
        rw [ksame _ _ ks kt (by rw [qs, qt]; grind) (by rw [qs, qt]; grind)]
        refine Br.ndec (fun hc => absurd (by first | omega | assumption | decide | exact rfl) hc) (fun c460 => ?_)
        refine StillVC.run (StillVC.loadON p23 0 rfl ty24 rfl rfl rfl ?_)
        refine StillVC.run (StillVC.loadON p23 2 rfl ty24 rfl rfl rfl ?_)
        refine CallVC.ret (mul_spec (a1, a2) (c1, c2) _ ha hc) ?_
        rintro _ h24 ⟨rfl, oc24⟩
        have p24 := oc24.thenE (by assumption)
        rw [mulR_ok ka kc, hu]
        (refine RunVC.store p24 3 rfl ty24 rfl (by simp) (And.intro ⟨rfl, rfl⟩ ?_); intro m480 o480)
        refine StillVC.run (StillVC.loadON o480 1 rfl ty24 rfl rfl rfl ?_)
        refine StillVC.run (StillVC.loadON o480 2 rfl ty24 rfl rfl rfl ?_)
        refine CallVC.ret (mul_spec (b1, b2) (c1, c2) _ hb hc) ?_
        rintro _ h25 ⟨rfl, oc25⟩
        have p25 := oc25.thenE (by assumption)
        rw [mulR_ok kb kc, hvi]
        rcases hug with ⟨rfl, ku, qu⟩ | ⟨rfl, rfl, rfl, _⟩
        · rcases hvv with ⟨rfl, kv', qv⟩ | ⟨rfl, rfl, rfl, _⟩
          · by_cases hpos : c1 ≤ 0
            · skip
              (refine RunVC.store p25 4 rfl ty24 rfl (by simp) (And.intro ⟨rfl, rfl⟩ ?_); intro m500 o500)
              refine Br.tt ?_
              refine StillVC.run (StillVC.fieldAddr st24 rfl rfl rfl ?_)
              refine StillVC.run (StillVC.loadO o500 2 rfl ty3 rfl rfl ?_)
              refine Br.dec (fun c503 => ?_) (fun hc => absurd (by omega) hc)
              refine RetVC.one rfl ?_
              exact ⟨by first | rfl | simp, Own.sel (by assumption) [] rfl⟩
            · skip
              (refine RunVC.store p25 4 rfl ty24 rfl (by simp) (And.intro ⟨rfl, rfl⟩ ?_); intro m520 o520)
              refine Br.tt ?_
              refine StillVC.run (StillVC.fieldAddr st24 rfl rfl rfl ?_)
              refine StillVC.run (StillVC.loadO o520 2 rfl ty3 rfl rfl ?_)
              refine Br.dec (fun hc => absurd hc (by omega)) (fun c523 => ?_)
              refine Br.ndec (fun hc => absurd (by first | omega | assumption | decide | exact rfl) hc) (fun c524 => ?_)
              refine Br.ndec (fun hc => absurd (by first | omega | assumption | decide | exact rfl) hc) (fun c525 => ?_)
              refine StillVC.run (StillVC.loadON o520 3 rfl ty24 rfl rfl rfl ?_)
              refine StillVC.run (StillVC.loadON o520 4 rfl ty24 rfl rfl rfl ?_)
              refine CallVC.ret (cmp_spec (u1, u2) (v1, v2) _ (okP_i64 ku) (okP_i64 kv')) ?_
              rintro _ h26 ⟨rfl, oc26⟩
              have p26 := oc26.thenE (by assumption)
              rw [ksame _ _ ku kv' (by rw [qu, qv]; exact mulpos kc hpos _ _) (by rw [qu, qv]; exact mulpos kc hpos _ _)]
              refine RetVC.one rfl ?_
              exact ⟨by first | rfl | simp, Own.sel (by assumption) [] rfl⟩
          · by_cases hpos : c1 ≤ 0
            · skip
              (refine RunVC.store p25 4 rfl ty24 rfl (by simp) (And.intro ⟨rfl, rfl⟩ ?_); intro m560 o560)
              refine Br.tt ?_
              refine StillVC.run (StillVC.fieldAddr st24 rfl rfl rfl ?_)
              refine StillVC.run (StillVC.loadO o560 2 rfl ty3 rfl rfl ?_)
              refine Br.dec (fun c563 => ?_) (fun hc => absurd (by omega) hc)
              refine RetVC.one rfl ?_
              exact ⟨by first | rfl | simp, Own.sel (by assumption) [] rfl⟩
            · skip
              (refine RunVC.store p25 4 rfl ty24 rfl (by simp) (And.intro ⟨rfl, rfl⟩ ?_); intro m580 o580)
              refine Br.tt ?_
              refine StillVC.run (StillVC.fieldAddr st24 rfl rfl rfl ?_)
              refine StillVC.run (StillVC.loadO o580 2 rfl ty3 rfl rfl ?_)
              refine Br.dec (fun hc => absurd hc (by omega)) (fun c583 => ?_)
              refine Br.ndec (fun hc => absurd (by first | omega | assumption | decide | exact rfl) hc) (fun c584 => ?_)
              refine Br.tt ?_
              refine RetVC.one rfl ?_
              exact ⟨by first | rfl | simp, Own.sel (by assumption) [] rfl⟩
        · by_cases hpos : c1 ≤ 0
          · skip
            (refine RunVC.store p25 4 rfl ty24 rfl (by simp) (And.intro ⟨rfl, rfl⟩ ?_); intro m600 o600)
            refine Br.tt ?_
            refine StillVC.run (StillVC.fieldAddr st24 rfl rfl rfl ?_)
            refine StillVC.run (StillVC.loadO o600 2 rfl ty3 rfl rfl ?_)
            refine Br.dec (fun c603 => ?_) (fun hc => absurd (by omega) hc)
            refine RetVC.one rfl ?_
            exact ⟨by first | rfl | simp, Own.sel (by assumption) [] rfl⟩
          · skip
            (refine RunVC.store p25 4 rfl ty24 rfl (by simp) (And.intro ⟨rfl, rfl⟩ ?_); intro m620 o620)
            refine Br.tt ?_
            refine StillVC.run (StillVC.fieldAddr st24 rfl rfl rfl ?_)
            refine StillVC.run (StillVC.loadO o620 2 rfl ty3 rfl rfl ?_)
            refine Br.dec (fun hc => absurd hc (by omega)) (fun c623 => ?_)
            refine Br.tt ?_
            refine RetVC.one rfl ?_
            exact ⟨by first | rfl | simp, Own.sel (by assumption) [] rfl⟩
      · skip
        (refine RunVC.alloc p22 ty24 ?_; intro b640 m640 o640)
        (refine RunVC.storeL o640 4 rfl ty24 rfl (by decide) (And.intro ⟨rfl, rfl⟩ ?_); intro m641 o641)
        refine Br.dec (fun c642 => ?_) (fun hc => absurd (by omega) hc)
        refine Br.ff ?_
        refine Br.ff ?_
        refine StillVC.run (StillVC.loadON o641 0 rfl ty24 rfl rfl rfl ?_)
        refine StillVC.run (StillVC.loadON o641 2 rfl ty24 rfl rfl rfl ?_)
        refine CallVC.ret (mul_spec (a1, a2) (c1, c2) _ ha hc) ?_
        rintro _ h27 ⟨rfl, oc27⟩
        have p27 := oc27.thenE (by assumption)
        rw [mulR_ok ka kc, hu]
        (refine RunVC.store p27 3 rfl ty24 rfl (by simp) (And.intro ⟨rfl, rfl⟩ ?_); intro m660 o660)
        refine StillVC.run (StillVC.loadON o660 1 rfl ty24 rfl rfl rfl ?_)
        refine StillVC.run (StillVC.loadON o660 2 rfl ty24 rfl rfl rfl ?_)
        refine CallVC.ret (mul_spec (b1, b2) (c1, c2) _ hb hc) ?_
        rintro _ h28 ⟨rfl, oc28⟩
        have p28 := oc28.thenE (by assumption)
        rw [mulR_ok kb kc, hvi]
        rcases hug with ⟨rfl, ku, qu⟩ | ⟨rfl, rfl, rfl, _⟩
        · rcases hvv with ⟨rfl, kv', qv⟩ | ⟨rfl, rfl, rfl, _⟩
          · by_cases hpos : c1 ≤ 0
            · skip
              (refine RunVC.storeL p28 4 rfl ty24 rfl (by decide) (And.intro ⟨rfl, rfl⟩ ?_); intro m680 o680)
              refine Br.tt ?_
              refine StillVC.run (StillVC.fieldAddr st24 rfl rfl rfl ?_)
              refine StillVC.run (StillVC.loadO o680 2 rfl ty3 rfl rfl ?_)
              refine Br.dec (fun c683 => ?_) (fun hc => absurd (by omega) hc)
              refine RetVC.one rfl ?_
              exact ⟨by first | rfl | simp, Own.sel (by assumption) [] rfl⟩
            · skip
              (refine RunVC.storeL p28 4 rfl ty24 rfl (by decide) (And.intro ⟨rfl, rfl⟩ ?_); intro m700 o700)
              refine Br.tt ?_
              refine StillVC.run (StillVC.fieldAddr st24 rfl rfl rfl ?_)
              refine StillVC.run (StillVC.loadO o700 2 rfl ty3 rfl rfl ?_)
              refine Br.dec (fun hc => absurd hc (by omega)) (fun c703 => ?_)
              refine Br.ndec (fun hc => absurd (by first | omega | assumption | decide | exact rfl) hc) (fun c704 => ?_)
              refine Br.ndec (fun hc => absurd (by first | omega | assumption | decide | exact rfl) hc) (fun c705 => ?_)
              refine StillVC.run (StillVC.loadON o700 3 rfl ty24 rfl rfl rfl ?_)
              refine StillVC.run (StillVC.loadON o700 4 rfl ty24 rfl rfl rfl ?_)
              refine CallVC.ret (cmp_spec (u1, u2) (v1, v2) _ (okP_i64 ku) (okP_i64 kv')) ?_
              rintro _ h29 ⟨rfl, oc29⟩
              have p29 := oc29.thenE (by assumption)
              rw [ksame _ _ ku kv' (by rw [qu, qv]; exact mulpos kc hpos _ _) (by rw [qu, qv]; exact mulpos kc hpos _ _)]
              refine RetVC.one rfl ?_
              exact ⟨by first | rfl | simp, Own.sel (by assumption) [] rfl⟩
          · by_cases hpos : c1 ≤ 0
            · skip
              (refine RunVC.storeL p28 4 rfl ty24 rfl (by decide) (And.intro ⟨rfl, rfl⟩ ?_); intro m740 o740)
              refine Br.tt ?_
              refine StillVC.run (StillVC.fieldAddr st24 rfl rfl rfl ?_)
              refine StillVC.run (StillVC.loadO o740 2 rfl ty3 rfl rfl ?_)
              refine Br.dec (fun c743 => ?_) (fun hc => absurd (by omega) hc)
              refine RetVC.one rfl ?_
              exact ⟨by first | rfl | simp, Own.sel (by assumption) [] rfl⟩
            · skip
              (refine RunVC.storeL p28 4 rfl ty24 rfl (by decide) (And.intro ⟨rfl, rfl⟩ ?_); intro m760 o760)
              refine Br.tt ?_
              refine StillVC.run (StillVC.fieldAddr st24 rfl rfl rfl ?_)
              refine StillVC.run (StillVC.loadO o760 2 rfl ty3 rfl rfl ?_)
              refine Br.dec (fun hc => absurd hc (by omega)) (fun c763 => ?_)
              refine Br.ndec (fun hc => absurd (by first | omega | assumption | decide | exact rfl) hc) (fun c764 => ?_)
              refine Br.tt ?_
              refine RetVC.one rfl ?_
              exact ⟨by first | rfl | simp, Own.sel (by assumption) [] rfl⟩
        · by_cases hpos : c1 ≤ 0
          · skip
            (refine RunVC.storeL p28 4 rfl ty24 rfl (by decide) (And.intro ⟨rfl, rfl⟩ ?_); intro m780 o780)
            refine Br.tt ?_
            refine StillVC.run (StillVC.fieldAddr st24 rfl rfl rfl ?_)
            refine StillVC.run (StillVC.loadO o780 2 rfl ty3 rfl rfl ?_)
            refine Br.dec (fun c783 => ?_) (fun hc => absurd (by omega) hc)
            refine RetVC.one rfl ?_
            exact ⟨by first | rfl | simp, Own.sel (by assumption) [] rfl⟩
          · skip
            (refine RunVC.storeL p28 4 rfl ty24 rfl (by decide) (And.intro ⟨rfl, rfl⟩ ?_); intro m800 o800)
            refine Br.tt ?_
            refine StillVC.run (StillVC.fieldAddr st24 rfl rfl rfl ?_)
            refine StillVC.run (StillVC.loadO o800 2 rfl ty3 rfl rfl ?_)
            refine Br.dec (fun hc => absurd hc (by omega)) (fun c803 => ?_)
            refine Br.tt ?_
            refine RetVC.one rfl ?_
            exact ⟨by first | rfl | simp, Own.sel (by assumption) [] rfl⟩
    · skip
      (refine RunVC.alloc p22 ty24 ?_; intro b820 m820 o820)
      (refine RunVC.storeL o820 4 rfl ty24 rfl (by decide) (And.intro ⟨rfl, rfl⟩ ?_); intro m821 o821)
      refine Br.ff ?_
      refine Br.ff ?_
      refine StillVC.run (StillVC.loadON o821 0 rfl ty24 rfl rfl rfl ?_)
      refine StillVC.run (StillVC.loadON o821 2 rfl ty24 rfl rfl rfl ?_)
      refine CallVC.ret (mul_spec (a1, a2) (c1, c2) _ ha hc) ?_
      rintro _ h30 ⟨rfl, oc30⟩
      have p30 := oc30.thenE (by assumption)
      rw [mulR_ok ka kc, hu]
      (refine RunVC.storeL p30 3 rfl ty24 rfl (by decide) (And.intro ⟨rfl, rfl⟩ ?_); intro m840 o840)
      refine StillVC.run (StillVC.loadON o840 1 rfl ty24 rfl rfl rfl ?_)
      refine StillVC.run (StillVC.loadON o840 2 rfl ty24 rfl rfl rfl ?_)
      refine CallVC.ret (mul_spec (b1, b2) (c1, c2) _ hb hc) ?_
      rintro _ h31 ⟨rfl, oc31⟩
      have p31 := oc31.thenE (by assumption)
      rw [mulR_ok kb kc, hvi]
      rcases hug with ⟨rfl, ku, qu⟩ | ⟨rfl, rfl, rfl, _⟩
      · rcases hvv with ⟨rfl, kv', qv⟩ | ⟨rfl, rfl, rfl, _⟩
        · by_cases hpos : c1 ≤ 0
          · skip
            (refine RunVC.store p31 4 rfl ty24 rfl (by simp) (And.intro ⟨rfl, rfl⟩ ?_); intro m860 o860)
            refine Br.tt ?_
            refine StillVC.run (StillVC.fieldAddr st24 rfl rfl rfl ?_)
            refine StillVC.run (StillVC.loadO o860 2 rfl ty3 rfl rfl ?_)
            refine Br.dec (fun c863 => ?_) (fun hc => absurd (by omega) hc)
            refine RetVC.one rfl ?_
            exact ⟨by first | rfl | simp, Own.sel (by assumption) [] rfl⟩
          · skip
            (refine RunVC.store p31 4 rfl ty24 rfl (by simp) (And.intro ⟨rfl, rfl⟩ ?_); intro m880 o880)
            refine Br.tt ?_
            refine StillVC.run (StillVC.fieldAddr st24 rfl rfl rfl ?_)
            refine StillVC.run (StillVC.loadO o880 2 rfl ty3 rfl rfl ?_)
            refine Br.dec (fun hc => absurd hc (by omega)) (fun c883 => ?_)
            refine Br.ndec (fun hc => absurd (by first | omega | assumption | decide | exact rfl) hc) (fun c884 => ?_)
            refine Br.ndec (fun hc => absurd (by first | omega | assumption | decide | exact rfl) hc) (fun c885 => ?_)
            refine StillVC.run (StillVC.loadON o880 3 rfl ty24 rfl rfl rfl ?_)
            refine StillVC.run (StillVC.loadON o880 4 rfl ty24 rfl rfl rfl ?_)
            refine CallVC.ret (cmp_spec (u1, u2) (v1, v2) _ (okP_i64 ku) (okP_i64 kv')) ?_
            rintro _ h32 ⟨rfl, oc32⟩
            have p32 := oc32.thenE (by assumption)
            rw [ksame _ _ ku kv' (by rw [qu, qv]; exact mulpos kc hpos _ _) (by rw [qu, qv]; exact mulpos kc hpos _ _)]
            refine RetVC.one rfl ?_
            exact ⟨by first | rfl | simp, Own.sel (by assumption) [] rfl⟩
        · by_cases hpos : c1 ≤ 0
          · skip
            (refine RunVC.store p31 4 rfl ty24 rfl (by simp) (And.intro ⟨rfl, rfl⟩ ?_); intro m920 o920)
            refine Br.tt ?_
            refine StillVC.run (StillVC.fieldAddr st24 rfl rfl rfl ?_)
            refine StillVC.run (StillVC.loadO o920 2 rfl ty3 rfl rfl ?_)
            refine Br.dec (fun c923 => ?_) (fun hc => absurd (by omega) hc)
            refine RetVC.one rfl ?_
            exact ⟨by first | rfl | simp, Own.sel (by assumption) [] rfl⟩
          · skip
            (refine RunVC.store p31 4 rfl ty24 rfl (by simp) (And.intro ⟨rfl, rfl⟩ ?_); intro m940 o940)
            refine Br.tt ?_
            refine StillVC.run (StillVC.fieldAddr st24 rfl rfl rfl ?_)
            refine StillVC.run (StillVC.loadO o940 2 rfl ty3 rfl rfl ?_)
            refine Br.dec (fun hc => absurd hc (by omega)) (fun c943 => ?_)
            refine Br.ndec (fun hc => absurd (by first | omega | assumption | decide | exact rfl) hc) (fun c944 => ?_)
            refine Br.tt ?_
            refine RetVC.one rfl ?_
            exact ⟨by first | rfl | simp, Own.sel (by assumption) [] rfl⟩
      · by_cases hpos : c1 ≤ 0
        · skip
          (refine RunVC.store p31 4 rfl ty24 rfl (by simp) (And.intro ⟨rfl, rfl⟩ ?_); intro m960 o960)
          refine Br.tt ?_
          refine StillVC.run (StillVC.fieldAddr st24 rfl rfl rfl ?_)
          refine StillVC.run (StillVC.loadO o960 2 rfl ty3 rfl rfl ?_)
          refine Br.dec (fun c963 => ?_) (fun hc => absurd (by omega) hc)
          refine RetVC.one rfl ?_
          exact ⟨by first | rfl | simp, Own.sel (by assumption) [] rfl⟩
        · skip
          (refine RunVC.store p31 4 rfl ty24 rfl (by simp) (And.intro ⟨rfl, rfl⟩ ?_); intro m980 o980)
          refine Br.tt ?_
          refine StillVC.run (StillVC.fieldAddr st24 rfl rfl rfl ?_)
          refine StillVC.run (StillVC.loadO o980 2 rfl ty3 rfl rfl ?_)
          refine Br.dec (fun hc => absurd hc (by omega)) (fun c983 => ?_)
          refine Br.tt ?_
          refine RetVC.one rfl ?_
          exact ⟨by first | rfl | simp, Own.sel (by assumption) [] rfl⟩
  · refine CallVC.ret (cmp_spec (b1, b2) (c1, c2) _ hb hc) ?_
    rintro _ h7 ⟨rfl, oc7⟩
    have p7 := oc7.thenE (by assumption)
    generalize cmpR (b1, b2) (c1, c2) = kbc at *
    by_cases hkbc : kbc ≤ 0
    · have hkac := ktr (by assumption) hkbc
      refine Br.dec (fun c200 => ?_) (fun hc => absurd (by omega) hc)
      refine StillVC.run (StillVC.loadON p7 0 rfl ty24 rfl rfl rfl ?_)
      refine StillVC.run (StillVC.loadON p7 2 rfl ty24 rfl rfl rfl ?_)
      refine CallVC.ret (cmp_spec (a1, a2) (c1, c2) _ ha hc) ?_
      rintro _ h8 ⟨rfl, oc8⟩
      have p8 := oc8.thenE (by assumption)
      generalize cmpR (a1, a2) (c1, c2) = kac at *
      refine Br.dec (fun hc => absurd hc (by omega)) (fun c300 => ?_)
      refine StillVC.run (StillVC.loadON p8 0 rfl ty24 rfl rfl rfl ?_)
      refine StillVC.run (StillVC.loadON p8 2 rfl ty24 rfl rfl rfl ?_)
      obtain ⟨s1, s2, e, hs, hse⟩ := packR_two (ofP (a1, a2) + ofP (c1, c2))
      obtain ⟨t1, t2, f, hft, htf⟩ := packR_two (ofP (b1, b2) + ofP (c1, c2))
      obtain ⟨u1, u2, g, hu, hug⟩ := packR_two (ofP (a1, a2) * ofP (c1, c2))
      obtain ⟨v1, v2, i, hvi, hvv⟩ := packR_two (ofP (b1, b2) * ofP (c1, c2))
      refine CallVC.ret (add_spec (a1, a2) (c1, c2) _ ha hc) ?_
      rintro _ h33 ⟨rfl, oc33⟩
      have p33 := oc33.thenE (by assumption)
      rw [addR_ok ka kc, hs]
      (refine RunVC.alloc p33 ty24 ?_; intro b1000 m1000 o1000)
      (refine RunVC.storeL o1000 3 rfl ty24 rfl (by decide) (And.intro ⟨rfl, rfl⟩ ?_); intro m1001 o1001)
      refine StillVC.run (StillVC.loadON o1001 1 rfl ty24 rfl rfl rfl ?_)
      refine StillVC.run (StillVC.loadON o1001 2 rfl ty24 rfl rfl rfl ?_)
      refine CallVC.ret (add_spec (b1, b2) (c1, c2) _ hb hc) ?_
      rintro _ h34 ⟨rfl, oc34⟩
      have p34 := oc34.thenE (by assumption)
      rw [addR_ok kb kc, hft]
      rcases hse with ⟨rfl, ks, qs⟩ | ⟨rfl, rfl, rfl, _⟩
      · rcases htf with ⟨rfl, kt, qt⟩ | ⟨rfl, rfl, rfl, _⟩
        · skip
          (refine RunVC.alloc p34 ty24 ?_; intro b1020 m1020 o1020)
          (refine RunVC.storeL o1020 4 rfl ty24 rfl (by decide) (And.intro ⟨rfl, rfl⟩ ?_); intro m1021 o1021)
          refine Br.dec (fun c1022 => ?_) (fun hc => absurd (by omega) hc)
          refine Br.dec (fun c1023 => ?_) (fun hc => absurd (by omega) hc)
          refine StillVC.run (StillVC.loadON o1021 3 rfl ty24 rfl rfl rfl ?_)
          refine StillVC.run (StillVC.loadON o1021 4 rfl ty24 rfl rfl rfl ?_)
          refine CallVC.ret (cmp_spec (s1, s2) (t1, t2) _ (okP_i64 ks) (okP_i64 kt)) ?_
          rintro _ h35 ⟨rfl, oc35⟩
          have p35 := oc35.thenE (by assumption)
          rw [ksame _ _ ks kt (by rw [qs, qt]; grind) (by rw [qs, qt]; grind)]
          refine Br.ndec (fun hc => absurd (by first | omega | assumption | decide | exact rfl) hc) (fun c1040 => ?_)
          refine StillVC.run (StillVC.loadON p35 0 rfl ty24 rfl rfl rfl ?_)
          refine StillVC.run (StillVC.loadON p35 2 rfl ty24 rfl rfl rfl ?_)
          refine CallVC.ret (mul_spec (a1, a2) (c1, c2) _ ha hc) ?_
          rintro _ h36 ⟨rfl, oc36⟩
          have p36 := oc36.thenE (by assumption)
          rw [mulR_ok ka kc, hu]
          (refine RunVC.store p36 3 rfl ty24 rfl (by simp) (And.intro ⟨rfl, rfl⟩ ?_); intro m1060 o1060)
          refine StillVC.run (StillVC.loadON o1060 1 rfl ty24 rfl rfl rfl ?_)
          refine StillVC.run (StillVC.loadON o1060 2 rfl ty24 rfl rfl rfl ?_)
          refine CallVC.ret (mul_spec (b1, b2) (c1, c2) _ hb hc) ?_
          rintro _ h37 ⟨rfl, oc37⟩
          have p37 := oc37.thenE (by assumption)
          rw [mulR_ok kb kc, hvi]
          rcases hug with ⟨rfl, ku, qu⟩ | ⟨rfl, rfl, rfl, _⟩
          · rcases hvv with ⟨rfl, kv', qv⟩ | ⟨rfl, rfl, rfl, _⟩
            · by_cases hpos : c1 ≤ 0
              · skip
                (refine RunVC.store p37 4 rfl ty24 rfl (by simp) (And.intro ⟨rfl, rfl⟩ ?_); intro m1080 o1080)
                refine Br.tt ?_
                refine StillVC.run (StillVC.fieldAddr st24 rfl rfl rfl ?_)
                refine StillVC.run (StillVC.loadO o1080 2 rfl ty3 rfl rfl ?_)
                refine Br.dec (fun c1083 => ?_) (fun hc => absurd (by omega) hc)
                refine RetVC.one rfl ?_
                exact ⟨by first | rfl | simp, Own.sel (by assumption) [] rfl⟩
              · skip
                (refine RunVC.store p37 4 rfl ty24 rfl (by simp) (And.intro ⟨rfl, rfl⟩ ?_); intro m1100 o1100)
                refine Br.tt ?_
                refine StillVC.run (StillVC.fieldAddr st24 rfl rfl rfl ?_)
                refine StillVC.run (StillVC.loadO o1100 2 rfl ty3 rfl rfl ?_)
                refine Br.dec (fun hc => absurd hc (by omega)) (fun c1103 => ?_)
                refine Br.ndec (fun hc => absurd (by first | omega | assumption | decide | exact rfl) hc) (fun c1104 => ?_)
                refine Br.ndec (fun hc => absurd (by first | omega | assumption | decide | exact rfl) hc) (fun c1105 => ?_)
                refine StillVC.run (StillVC.loadON o1100 3 rfl ty24 rfl rfl rfl ?_)
                refine StillVC.run (StillVC.loadON o1100 4 rfl ty24 rfl rfl rfl ?_)
                refine CallVC.ret (cmp_spec (u1, u2) (v1, v2) _ (okP_i64 ku) (okP_i64 kv')) ?_
                rintro _ h38 ⟨rfl, oc38⟩
                have p38 := oc38.thenE (by assumption)
                rw [ksame _ _ ku kv' (by rw [qu, qv]; exact mulpos kc hpos _ _) (by rw [qu, qv]; exact mulpos kc hpos _ _)]
                refine RetVC.one rfl ?_
                exact ⟨by first | rfl | simp, Own.sel (by assumption) [] rfl⟩
            · by_cases hpos : c1 ≤ 0
              · skip
                (refine RunVC.store p37 4 rfl ty24 rfl (by simp) (And.intro ⟨rfl, rfl⟩ ?_); intro m1140 o1140)
                refine Br.tt ?_
                refine StillVC.run (StillVC.fieldAddr st24 rfl rfl rfl ?_)
                refine StillVC.run (StillVC.loadO o1140 2 rfl ty3 rfl rfl ?_)
                refine Br.dec (fun c1143 => ?_) (fun hc => absurd (by omega) hc)
                refine RetVC.one rfl ?_
                exact ⟨by first | rfl | simp, Own.sel (by assumption) [] rfl⟩
              · skip
                (refine RunVC.store p37 4 rfl ty24 rfl (by simp) (And.intro ⟨rfl, rfl⟩ ?_); intro m1160 o1160)
                refine Br.tt ?_
                refine StillVC.run (StillVC.fieldAddr st24 rfl rfl rfl ?_)
                refine StillVC.run (StillVC.loadO o1160 2 rfl ty3 rfl rfl ?_)
                refine Br.dec (fun hc => absurd hc (by omega)) (fun c1163 => ?_)
                refine Br.ndec (fun hc => absurd (by first | omega | assumption | decide | exact rfl) hc) (fun c1164 => ?_)
                refine Br.tt ?_
                refine RetVC.one rfl ?_
                exact ⟨by first | rfl | simp, Own.sel (by assumption) [] rfl⟩
          · by_cases hpos : c1 ≤ 0
            · skip
              (refine RunVC.store p37 4 rfl ty24 rfl (by simp) (And.intro ⟨rfl, rfl⟩ ?_); intro m1180 o1180)
              refine Br.tt ?_
              refine StillVC.run (StillVC.fieldAddr st24 rfl rfl rfl ?_)
              refine StillVC.run (StillVC.loadO o1180 2 rfl ty3 rfl rfl ?_)
              refine Br.dec (fun c1183 => ?_) (fun hc => absurd (by omega) hc)
              refine RetVC.one rfl ?_
              exact ⟨by first | rfl | simp, Own.sel (by assumption) [] rfl⟩
            · skip
              (refine RunVC.store p37 4 rfl ty24 rfl (by simp) (And.intro ⟨rfl, rfl⟩ ?_); intro m1200 o1200)
              refine Br.tt ?_
              refine StillVC.run (StillVC.fieldAddr st24 rfl rfl rfl ?_)
              refine StillVC.run (StillVC.loadO o1200 2 rfl ty3 rfl rfl ?_)
              refine Br.dec (fun hc => absurd hc (by omega)) (fun c1203 => ?_)
              refine Br.tt ?_
              refine RetVC.one rfl ?_
              exact ⟨by first | rfl | simp, Own.sel (by assumption) [] rfl⟩
        · skip
          (refine RunVC.alloc p34 ty24 ?_; intro b1220 m1220 o1220)
          (refine RunVC.storeL o1220 4 rfl ty24 rfl (by decide) (And.intro ⟨rfl, rfl⟩ ?_); intro m1221 o1221)
          refine Br.dec (fun c1222 => ?_) (fun hc => absurd (by omega) hc)
          refine Br.ff ?_
          refine Br.ff ?_
          refine StillVC.run (StillVC.loadON o1221 0 rfl ty24 rfl rfl rfl ?_)
          refine StillVC.run (StillVC.loadON o1221 2 rfl ty24 rfl rfl rfl ?_)
          refine CallVC.ret (mul_spec (a1, a2) (c1, c2) _ ha hc) ?_
          rintro _ h39 ⟨rfl, oc39⟩
          have p39 := oc39.thenE (by assumption)
          rw [mulR_ok ka kc, hu]
          (refine RunVC.store p39 3 rfl ty24 rfl (by simp) (And.intro ⟨rfl, rfl⟩ ?_); intro m1240 o1240)
          refine StillVC.run (StillVC.loadON o1240 1 rfl ty24 rfl rfl rfl ?_)
          refine StillVC.run (StillVC.loadON o1240 2 rfl ty24 rfl rfl rfl ?_)
          refine CallVC.ret (mul_spec (b1, b2) (c1, c2) _ hb hc) ?_
          rintro _ h40 ⟨rfl, oc40⟩
          have p40 := oc40.thenE (by assumption)
          rw [mulR_ok kb kc, hvi]
          rcases hug with ⟨rfl, ku, qu⟩ | ⟨rfl, rfl, rfl, _⟩
          · rcases hvv with ⟨rfl, kv', qv⟩ | ⟨rfl, rfl, rfl, _⟩
            · by_cases hpos : c1 ≤ 0
              · skip
                (refine RunVC.storeL p40 4 rfl ty24 rfl (by decide) (And.intro ⟨rfl, rfl⟩ ?_); intro m1260 o1260)
                refine Br.tt ?_
                refine StillVC.run (StillVC.fieldAddr st24 rfl rfl rfl ?_)
                refine StillVC.run (StillVC.loadO o1260 2 rfl ty3 rfl rfl ?_)
                refine Br.dec (fun c1263 => ?_) (fun hc => absurd (by omega) hc)
                refine RetVC.one rfl ?_
                exact ⟨by first | rfl | simp, Own.sel (by assumption) [] rfl⟩
              · skip
                (refine RunVC.storeL p40 4 rfl ty24 rfl (by decide) (And.intro ⟨rfl, rfl⟩ ?_); intro m1280 o1280)
                refine Br.tt ?_
                refine StillVC.run (StillVC.fieldAddr st24 rfl rfl rfl ?_)
                refine StillVC.run (StillVC.loadO o1280 2 rfl ty3 rfl rfl ?_)
                refine Br.dec (fun hc => absurd hc (by omega)) (fun c1283 => ?_)
                refine Br.ndec (fun hc => absurd (by first | omega | assumption | decide | exact rfl) hc) (fun c1284 => ?_)
                refine Br.ndec (fun hc => absurd (by first | omega | assumption | decide | exact rfl) hc) (fun c1285 => ?_)
                refine StillVC.run (StillVC.loadON o1280 3 rfl ty24 rfl rfl rfl ?_)
                refine StillVC.run (StillVC.loadON o1280 4 rfl ty24 rfl rfl rfl ?_)
                refine CallVC.ret (cmp_spec (u1, u2) (v1, v2) _ (okP_i64 ku) (okP_i64 kv')) ?_
                rintro _ h41 ⟨rfl, oc41⟩
                have p41 := oc41.thenE (by assumption)
                rw [ksame _ _ ku kv' (by rw [qu, qv]; exact mulpos kc hpos _ _) (by rw [qu, qv]; exact mulpos kc hpos _ _)]
                refine RetVC.one rfl ?_
                exact ⟨by first | rfl | simp, Own.sel (by assumption) [] rfl⟩
            · by_cases hpos : c1 ≤ 0
              · skip
                (refine RunVC.storeL p40 4 rfl ty24 rfl (by decide) (And.intro ⟨rfl, rfl⟩ ?_); intro m1320 o1320)
                refine Br.tt ?_
                refine StillVC.run (StillVC.fieldAddr st24 rfl rfl rfl ?_)
                refine StillVC.run (StillVC.loadO o1320 2 rfl ty3 rfl rfl ?_)
                refine Br.dec (fun c1323 => ?_) (fun hc => absurd (by omega) hc)
                refine RetVC.one rfl ?_
                exact ⟨by first | rfl | simp, Own.sel (by assumption) [] rfl⟩
              · skip
                (refine RunVC.storeL p40 4 rfl ty24 rfl (by decide) (And.intro ⟨rfl, rfl⟩ ?_); intro m1340 o1340)
                refine Br.tt ?_
                refine StillVC.run (StillVC.fieldAddr st24 rfl rfl rfl ?_)
                refine StillVC.run (StillVC.loadO o1340 2 rfl ty3 rfl rfl ?_)
                refine Br.dec (fun hc => absurd hc (by omega)) (fun c1343 => ?_)
                refine Br.ndec (fun hc => absurd (by first | omega | assumption | decide | exact rfl) hc) (fun c1344 => ?_)
                refine Br.tt ?_
                refine RetVC.one rfl ?_
                exact ⟨by first | rfl | simp, Own.sel (by assumption) [] rfl⟩
          · by_cases hpos : c1 ≤ 0
            · skip
              (refine RunVC.storeL p40 4 rfl ty24 rfl (by decide) (And.intro ⟨rfl, rfl⟩ ?_); intro m1360 o1360)
              refine Br.tt ?_
              refine StillVC.run (StillVC.fieldAddr st24 rfl rfl rfl ?_)
              refine StillVC.run (StillVC.loadO o1360 2 rfl ty3 rfl rfl ?_)
              refine Br.dec (fun c1363 => ?_) (fun hc => absurd (by omega) hc)
              refine RetVC.one rfl ?_
              exact ⟨by first | rfl | simp, Own.sel (by assumption) [] rfl⟩
            · skip
              (refine RunVC.storeL p40 4 rfl ty24 rfl (by decide) (And.intro ⟨rfl, rfl⟩ ?_); intro m1380 o1380)
              refine Br.tt ?_
              refine StillVC.run (StillVC.fieldAddr st24 rfl rfl rfl ?_)
              refine StillVC.run (StillVC.loadO o1380 2 rfl ty3 rfl rfl ?_)
              refine Br.dec (fun hc => absurd hc (by omega)) (fun c1383 => ?_)
              refine Br.tt ?_
              refine RetVC.one rfl ?_
              exact ⟨by first | rfl | simp, Own.sel (by assumption) [] rfl⟩
      · skip
        (refine RunVC.alloc p34 ty24 ?_; intro b1400 m1400 o1400)
        (refine RunVC.storeL o1400 4 rfl ty24 rfl (by decide) (And.intro ⟨rfl, rfl⟩ ?_); intro m1401 o1401)
        refine Br.ff ?_
        refine Br.ff ?_
        refine StillVC.run (StillVC.loadON o1401 0 rfl ty24 rfl rfl rfl ?_)
        refine StillVC.run (StillVC.loadON o1401 2 rfl ty24 rfl rfl rfl ?_)
        refine CallVC.ret (mul_spec (a1, a2) (c1, c2) _ ha hc) ?_
        rintro _ h42 ⟨rfl, oc42⟩
        have p42 := oc42.thenE (by assumption)
        rw [mulR_ok ka kc, hu]
        (refine RunVC.storeL p42 3 rfl ty24 rfl (by decide) (And.intro ⟨rfl, rfl⟩ ?_); intro m1420 o1420)
        refine StillVC.run (StillVC.loadON o1420 1 rfl ty24 rfl rfl rfl ?_)
        refine StillVC.run (StillVC.loadON o1420 2 rfl ty24 rfl rfl rfl ?_)
        refine CallVC.ret (mul_spec (b1, b2) (c1, c2) _ hb hc) ?_
        rintro _ h43 ⟨rfl, oc43⟩
        have p43 := oc43.thenE (by assumption)
        rw [mulR_ok kb kc, hvi]
        rcases hug with ⟨rfl, ku, qu⟩ | ⟨rfl, rfl, rfl, _⟩
        · rcases hvv with ⟨rfl, kv', qv⟩ | ⟨rfl, rfl, rfl, _⟩
          · by_cases hpos : c1 ≤ 0
            · skip
              (refine RunVC.store p43 4 rfl ty24 rfl (by simp) (And.intro ⟨rfl, rfl⟩ ?_); intro m1440 o1440)
              refine Br.tt ?_
              refine StillVC.run (StillVC.fieldAddr st24 rfl rfl rfl ?_)
              refine StillVC.run (StillVC.loadO o1440 2 rfl ty3 rfl rfl ?_)
              refine Br.dec (fun c1443 => ?_) (fun hc => absurd (by omega) hc)
              refine RetVC.one rfl ?_
              exact ⟨by first | rfl | simp, Own.sel (by assumption) [] rfl⟩
            · skip
              (refine RunVC.store p43 4 rfl ty24 rfl (by simp) (And.intro ⟨rfl, rfl⟩ ?_); intro m1460 o1460)
              refine Br.tt ?_
              refine StillVC.run (StillVC.fieldAddr st24 rfl rfl rfl ?_)
              refine StillVC.run (StillVC.loadO o1460 2 rfl ty3 rfl rfl ?_)
              refine Br.dec (fun hc => absurd hc (by omega)) (fun c1463 => ?_)
              refine Br.ndec (fun hc => absurd (by first | omega | assumption | decide | exact rfl) hc) (fun c1464 => ?_)
              refine Br.ndec (fun hc => absurd (by first | omega | assumption | decide | exact rfl) hc) (fun c1465 => ?_)
              refine StillVC.run (StillVC.loadON o1460 3 rfl ty24 rfl rfl rfl ?_)
              refine StillVC.run (StillVC.loadON o1460 4 rfl ty24 rfl rfl rfl ?_)
              refine CallVC.ret (cmp_spec (u1, u2) (v1, v2) _ (okP_i64 ku) (okP_i64 kv')) ?_
              rintro _ h44 ⟨rfl, oc44⟩
              have p44 := oc44.thenE (by assumption)
              rw [ksame _ _ ku kv' (by rw [qu, qv]; exact mulpos kc hpos _ _) (by rw [qu, qv]; exact mulpos kc hpos _ _)]
              refine RetVC.one rfl ?_
              exact ⟨by first | rfl | simp, Own.sel (by assumption) [] rfl⟩
          · by_cases hpos : c1 ≤ 0
            · skip
              (refine RunVC.store p43 4 rfl ty24 rfl (by simp) (And.intro ⟨rfl, rfl⟩ ?_); intro m1500 o1500)
              refine Br.tt ?_
              refine StillVC.run (StillVC.fieldAddr st24 rfl rfl rfl ?_)
              refine StillVC.run (StillVC.loadO o1500 2 rfl ty3 rfl rfl ?_)
              refine Br.dec (fun c1503 => ?_) (fun hc => absurd (by omega) hc)
              refine RetVC.one rfl ?_
              exact ⟨by first | rfl | simp, Own.sel (by assumption) [] rfl⟩
            · skip
              (refine RunVC.store p43 4 rfl ty24 rfl (by simp) (And.intro ⟨rfl, rfl⟩ ?_); intro m1520 o1520)
              refine Br.tt ?_
              refine StillVC.run (StillVC.fieldAddr st24 rfl rfl rfl ?_)
              refine StillVC.run (StillVC.loadO o1520 2 rfl ty3 rfl rfl ?_)
              refine Br.dec (fun hc => absurd hc (by omega)) (fun c1523 => ?_)
              refine Br.ndec (fun hc => absurd (by first | omega | assumption | decide | exact rfl) hc) (fun c1524 => ?_)
              refine Br.tt ?_
              refine RetVC.one rfl ?_
              exact ⟨by first | rfl | simp, Own.sel (by assumption) [] rfl⟩
        · by_cases hpos : c1 ≤ 0
          · skip
            (refine RunVC.store p43 4 rfl ty24 rfl (by simp) (And.intro ⟨rfl, rfl⟩ ?_); intro m1540 o1540)
            refine Br.tt ?_
            refine StillVC.run (StillVC.fieldAddr st24 rfl rfl rfl ?_)
            refine StillVC.run (StillVC.loadO o1540 2 rfl ty3 rfl rfl ?_)
            refine Br.dec (fun c1543 => ?_) (fun hc => absurd (by omega) hc)
            refine RetVC.one rfl ?_
            exact ⟨by first | rfl | simp, Own.sel (by assumption) [] rfl⟩
          · skip
            (refine RunVC.store p43 4 rfl ty24 rfl (by simp) (And.intro ⟨rfl, rfl⟩ ?_); intro m1560 o1560)
            refine Br.tt ?_
            refine StillVC.run (StillVC.fieldAddr st24 rfl rfl rfl ?_)
            refine StillVC.run (StillVC.loadO o1560 2 rfl ty3 rfl rfl ?_)
            refine Br.dec (fun hc => absurd hc (by omega)) (fun c1563 => ?_)
            refine Br.tt ?_
            refine RetVC.one rfl ?_
            exact ⟨by first | rfl | simp, Own.sel (by assumption) [] rfl⟩
    · skip
      refine Br.dec (fun hc => absurd hc (by omega)) (fun c350 => ?_)
      refine Br.ff ?_
      refine StillVC.run (StillVC.loadON p7 0 rfl ty24 rfl rfl rfl ?_)
      refine StillVC.run (StillVC.loadON p7 2 rfl ty24 rfl rfl rfl ?_)
      obtain ⟨s1, s2, e, hs, hse⟩ := packR_two (ofP (a1, a2) + ofP (c1, c2))
      obtain ⟨t1, t2, f, hft, htf⟩ := packR_two (ofP (b1, b2) + ofP (c1, c2))
      obtain ⟨u1, u2, g, hu, hug⟩ := packR_two (ofP (a1, a2) * ofP (c1, c2))
      obtain ⟨v1, v2, i, hvi, hvv⟩ := packR_two (ofP (b1, b2) * ofP (c1, c2))
      refine CallVC.ret (add_spec (a1, a2) (c1, c2) _ ha hc) ?_
      rintro _ h45 ⟨rfl, oc45⟩
      have p45 := oc45.thenE (by assumption)
      rw [addR_ok ka kc, hs]
      (refine RunVC.alloc p45 ty24 ?_; intro b1580 m1580 o1580)
      (refine RunVC.storeL o1580 3 rfl ty24 rfl (by decide) (And.intro ⟨rfl, rfl⟩ ?_); intro m1581 o1581)
      refine StillVC.run (StillVC.loadON o1581 1 rfl ty24 rfl rfl rfl ?_)
      refine StillVC.run (StillVC.loadON o1581 2 rfl ty24 rfl rfl rfl ?_)
      refine CallVC.ret (add_spec (b1, b2) (c1, c2) _ hb hc) ?_
      rintro _ h46 ⟨rfl, oc46⟩
      have p46 := oc46.thenE (by assumption)
      rw [addR_ok kb kc, hft]
      rcases hse with ⟨rfl, ks, qs⟩ | ⟨rfl, rfl, rfl, _⟩
      · rcases htf with ⟨rfl, kt, qt⟩ | ⟨rfl, rfl, rfl, _⟩
        · skip
          (refine RunVC.alloc p46 ty24 ?_; intro b1600 m1600 o1600)
          (refine RunVC.storeL o1600 4 rfl ty24 rfl (by decide) (And.intro ⟨rfl, rfl⟩ ?_); intro m1601 o1601)
          refine Br.dec (fun c1602 => ?_) (fun hc => absurd (by omega) hc)
          refine Br.dec (fun c1603 => ?_) (fun hc => absurd (by omega) hc)
          refine StillVC.run (StillVC.loadON o1601 3 rfl ty24 rfl rfl rfl ?_)
          refine StillVC.run (StillVC.loadON o1601 4 rfl ty24 rfl rfl rfl ?_)
          refine CallVC.ret (cmp_spec (s1, s2) (t1, t2) _ (okP_i64 ks) (okP_i64 kt)) ?_
          rintro _ h47 ⟨rfl, oc47⟩
          have p47 := oc47.thenE (by assumption)
          rw [ksame _ _ ks kt (by rw [qs, qt]; grind) (by rw [qs, qt]; grind)]
          refine Br.ndec (fun hc => absurd (by first | omega | assumption | decide | exact rfl) hc) (fun c1620 => ?_)
          refine StillVC.run (StillVC.loadON p47 0 rfl ty24 rfl rfl rfl ?_)
          refine StillVC.run (StillVC.loadON p47 2 rfl ty24 rfl rfl rfl ?_)
          refine CallVC.ret (mul_spec (a1, a2) (c1, c2) _ ha hc) ?_
          rintro _ h48 ⟨rfl, oc48⟩
          have p48 := oc48.thenE (by assumption)
          rw [mulR_ok ka kc, hu]
          (refine RunVC.store p48 3 rfl ty24 rfl (by simp) (And.intro ⟨rfl, rfl⟩ ?_); intro m1640 o1640)
          refine StillVC.run (StillVC.loadON o1640 1 rfl ty24 rfl rfl rfl ?_)
          refine StillVC.run (StillVC.loadON o1640 2 rfl ty24 rfl rfl rfl ?_)
          refine CallVC.ret (mul_spec (b1, b2) (c1, c2) _ hb hc) ?_
          rintro _ h49 ⟨rfl, oc49⟩
          have p49 := oc49.thenE (by assumption)
          rw [mulR_ok kb kc, hvi]
          rcases hug with ⟨rfl, ku, qu⟩ | ⟨rfl, rfl, rfl, _⟩
          · rcases hvv with ⟨rfl, kv', qv⟩ | ⟨rfl, rfl, rfl, _⟩
            · by_cases hpos : c1 ≤ 0
              · skip
                (refine RunVC.store p49 4 rfl ty24 rfl (by simp) (And.intro ⟨rfl, rfl⟩ ?_); intro m1660 o1660)
                refine Br.tt ?_
                refine StillVC.run (StillVC.fieldAddr st24 rfl rfl rfl ?_)
                refine StillVC.run (StillVC.loadO o1660 2 rfl ty3 rfl rfl ?_)
                refine Br.dec (fun c1663 => ?_) (fun hc => absurd (by omega) hc)
                refine RetVC.one rfl ?_
                exact ⟨by first | rfl | simp, Own.sel (by assumption) [] rfl⟩
              · skip
                (refine RunVC.store p49 4 rfl ty24 rfl (by simp) (And.intro ⟨rfl, rfl⟩ ?_); intro m1680 o1680)
                refine Br.tt ?_
                refine StillVC.run (StillVC.fieldAddr st24 rfl rfl rfl ?_)
                refine StillVC.run (StillVC.loadO o1680 2 rfl ty3 rfl rfl ?_)
                refine Br.dec (fun hc => absurd hc (by omega)) (fun c1683 => ?_)
                refine Br.ndec (fun hc => absurd (by first | omega | assumption | decide | exact rfl) hc) (fun c1684 => ?_)
                refine Br.ndec (fun hc => absurd (by first | omega | assumption | decide | exact rfl) hc) (fun c1685 => ?_)
                refine StillVC.run (StillVC.loadON o1680 3 rfl ty24 rfl rfl rfl ?_)
                refine StillVC.run (StillVC.loadON o1680 4 rfl ty24 rfl rfl rfl ?_)
                refine CallVC.ret (cmp_spec (u1, u2) (v1, v2) _ (okP_i64 ku) (okP_i64 kv')) ?_
                rintro _ h50 ⟨rfl, oc50⟩
                have p50 := oc50.thenE (by assumption)
                rw [ksame _ _ ku kv' (by rw [qu, qv]; exact mulpos kc hpos _ _) (by rw [qu, qv]; exact mulpos kc hpos _ _)]
                refine RetVC.one rfl ?_
                exact ⟨by first | rfl | simp, Own.sel (by assumption) [] rfl⟩
            · by_cases hpos : c1 ≤ 0
              · skip
                (refine RunVC.store p49 4 rfl ty24 rfl (by simp) (And.intro ⟨rfl, rfl⟩ ?_); intro m1720 o1720)
                refine Br.tt ?_
                refine StillVC.run (StillVC.fieldAddr st24 rfl rfl rfl ?_)
                refine StillVC.run (StillVC.loadO o1720 2 rfl ty3 rfl rfl ?_)
                refine Br.dec (fun c1723 => ?_) (fun hc => absurd (by omega) hc)
                refine RetVC.one rfl ?_
                exact ⟨by first | rfl | simp, Own.sel (by assumption) [] rfl⟩
              · skip
                (refine RunVC.store p49 4 rfl ty24 rfl (by simp) (And.intro ⟨rfl, rfl⟩ ?_); intro m1740 o1740)
                refine Br.tt ?_
                refine StillVC.run (StillVC.fieldAddr st24 rfl rfl rfl ?_)
                refine StillVC.run (StillVC.loadO o1740 2 rfl ty3 rfl rfl ?_)
                refine Br.dec (fun hc => absurd hc (by omega)) (fun c1743 => ?_)
                refine Br.ndec (fun hc => absurd (by first | omega | assumption | decide | exact rfl) hc) (fun c1744 => ?_)
                refine Br.tt ?_
                refine RetVC.one rfl ?_
                exact ⟨by first | rfl | simp, Own.sel (by assumption) [] rfl⟩
          · by_cases hpos : c1 ≤ 0
            · skip
              (refine RunVC.store p49 4 rfl ty24 rfl (by simp) (And.intro ⟨rfl, rfl⟩ ?_); intro m1760 o1760)
              refine Br.tt ?_
              refine StillVC.run (StillVC.fieldAddr st24 rfl rfl rfl ?_)
              refine StillVC.run (StillVC.loadO o1760 2 rfl ty3 rfl rfl ?_)
              refine Br.dec (fun c1763 => ?_) (fun hc => absurd (by omega) hc)
              refine RetVC.one rfl ?_
              exact ⟨by first | rfl | simp, Own.sel (by assumption) [] rfl⟩
            · skip
              (refine RunVC.store p49 4 rfl ty24 rfl (by simp) (And.intro ⟨rfl, rfl⟩ ?_); intro m1780 o1780)
              refine Br.tt ?_
              refine StillVC.run (StillVC.fieldAddr st24 rfl rfl rfl ?_)
              refine StillVC.run (StillVC.loadO o1780 2 rfl ty3 rfl rfl ?_)
              refine Br.dec (fun hc => absurd hc (by omega)) (fun c1783 => ?_)
              refine Br.tt ?_
              refine RetVC.one rfl ?_
              exact ⟨by first | rfl | simp, Own.sel (by assumption) [] rfl⟩
        · skip
          (refine RunVC.alloc p46 ty24 ?_; intro b1800 m1800 o1800)
          (refine RunVC.storeL o1800 4 rfl ty24 rfl (by decide) (And.intro ⟨rfl, rfl⟩ ?_); intro m1801 o1801)
          refine Br.dec (fun c1802 => ?_) (fun hc => absurd (by omega) hc)
          refine Br.ff ?_
          refine Br.ff ?_
          refine StillVC.run (StillVC.loadON o1801 0 rfl ty24 rfl rfl rfl ?_)
          refine StillVC.run (StillVC.loadON o1801 2 rfl ty24 rfl rfl rfl ?_)
          refine CallVC.ret (mul_spec (a1, a2) (c1, c2) _ ha hc) ?_
          rintro _ h51 ⟨rfl, oc51⟩
          have p51 := oc51.thenE (by assumption)
          rw [mulR_ok ka kc, hu]
          (refine RunVC.store p51 3 rfl ty24 rfl (by simp) (And.intro ⟨rfl, rfl⟩ ?_); intro m1820 o1820)
          refine StillVC.run (StillVC.loadON o1820 1 rfl ty24 rfl rfl rfl ?_)
          refine StillVC.run (StillVC.loadON o1820 2 rfl ty24 rfl rfl rfl ?_)
          refine CallVC.ret (mul_spec (b1, b2) (c1, c2) _ hb hc) ?_
          rintro _ h52 ⟨rfl, oc52⟩
          have p52 := oc52.thenE (by assumption)
          rw [mulR_ok kb kc, hvi]
          rcases hug with ⟨rfl, ku, qu⟩ | ⟨rfl, rfl, rfl, _⟩
          · rcases hvv with ⟨rfl, kv', qv⟩ | ⟨rfl, rfl, rfl, _⟩
            · by_cases hpos : c1 ≤ 0
              · skip
                (refine RunVC.storeL p52 4 rfl ty24 rfl (by decide) (And.intro ⟨rfl, rfl⟩ ?_); intro m1840 o1840)
                refine Br.tt ?_
                refine StillVC.run (StillVC.fieldAddr st24 rfl rfl rfl ?_)
                refine StillVC.run (StillVC.loadO o1840 2 rfl ty3 rfl rfl ?_)
                refine Br.dec (fun c1843 => ?_) (fun hc => absurd (by omega) hc)
                refine RetVC.one rfl ?_
                exact ⟨by first | rfl | simp, Own.sel (by assumption) [] rfl⟩
              · skip
                (refine RunVC.storeL p52 4 rfl ty24 rfl (by decide) (And.intro ⟨rfl, rfl⟩ ?_); intro m1860 o1860)
                refine Br.tt ?_
                refine StillVC.run (StillVC.fieldAddr st24 rfl rfl rfl ?_)
                refine StillVC.run (StillVC.loadO o1860 2 rfl ty3 rfl rfl ?_)
                refine Br.dec (fun hc => absurd hc (by omega)) (fun c1863 => ?_)
                refine Br.ndec (fun hc => absurd (by first | omega | assumption | decide | exact rfl) hc) (fun c1864 => ?_)
                refine Br.ndec (fun hc => absurd (by first | omega | assumption | decide | exact rfl) hc) (fun c1865 => ?_)
                refine StillVC.run (StillVC.loadON o1860 3 rfl ty24 rfl rfl rfl ?_)
                refine StillVC.run (StillVC.loadON o1860 4 rfl ty24 rfl rfl rfl ?_)
                refine CallVC.ret (cmp_spec (u1, u2) (v1, v2) _ (okP_i64 ku) (okP_i64 kv')) ?_
                rintro _ h53 ⟨rfl, oc53⟩
                have p53 := oc53.thenE (by assumption)
                rw [ksame _ _ ku kv' (by rw [qu, qv]; exact mulpos kc hpos _ _) (by rw [qu, qv]; exact mulpos kc hpos _ _)]
                refine RetVC.one rfl ?_
                exact ⟨by first | rfl | simp, Own.sel (by assumption) [] rfl⟩
            · by_cases hpos : c1 ≤ 0
              · skip
                (refine RunVC.storeL p52 4 rfl ty24 rfl (by decide) (And.intro ⟨rfl, rfl⟩ ?_); intro m1900 o1900)
                refine Br.tt ?_
                refine StillVC.run (StillVC.fieldAddr st24 rfl rfl rfl ?_)
                refine StillVC.run (StillVC.loadO o1900 2 rfl ty3 rfl rfl ?_)
                refine Br.dec (fun c1903 => ?_) (fun hc => absurd (by omega) hc)
                refine RetVC.one rfl ?_
                exact ⟨by first | rfl | simp, Own.sel (by assumption) [] rfl⟩
              · skip
                (refine RunVC.storeL p52 4 rfl ty24 rfl (by decide) (And.intro ⟨rfl, rfl⟩ ?_); intro m1920 o1920)
                refine Br.tt ?_
                refine StillVC.run (StillVC.fieldAddr st24 rfl rfl rfl ?_)
                refine StillVC.run (StillVC.loadO o1920 2 rfl ty3 rfl rfl ?_)
                refine Br.dec (fun hc => absurd hc (by omega)) (fun c1923 => ?_)
                refine Br.ndec (fun hc => absurd (by first | omega | assumption | decide | exact rfl) hc) (fun c1924 => ?_)
                refine Br.tt ?_
                refine RetVC.one rfl ?_
                exact ⟨by first | rfl | simp, Own.sel (by assumption) [] rfl⟩
          · by_cases hpos : c1 ≤ 0
            · skip
              (refine RunVC.storeL p52 4 rfl ty24 rfl (by decide) (And.intro ⟨rfl, rfl⟩ ?_); intro m1940 o1940)
              refine Br.tt ?_
              refine StillVC.run (StillVC.fieldAddr st24 rfl rfl rfl ?_)
              refine StillVC.run (StillVC.loadO o1940 2 rfl ty3 rfl rfl ?_)
              refine Br.dec (fun c1943 => ?_) (fun hc => absurd (by omega) hc)
              refine RetVC.one rfl ?_
              exact ⟨by first | rfl | simp, Own.sel (by assumption) [] rfl⟩
            · skip
              (refine RunVC.storeL p52 4 rfl ty24 rfl (by decide) (And.intro ⟨rfl, rfl⟩ ?_); intro m1960 o1960)
              refine Br.tt ?_
              refine StillVC.run (StillVC.fieldAddr st24 rfl rfl rfl ?_)
              refine StillVC.run (StillVC.loadO o1960 2 rfl ty3 rfl rfl ?_)
              refine Br.dec (fun hc => absurd hc (by omega)) (fun c1963 => ?_)
              refine Br.tt ?_
              refine RetVC.one rfl ?_
              exact ⟨by first | rfl | simp, Own.sel (by assumption) [] rfl⟩
      · skip
        (refine RunVC.alloc p46 ty24 ?_; intro b1980 m1980 o1980)
        (refine RunVC.storeL o1980 4 rfl ty24 rfl (by decide) (And.intro ⟨rfl, rfl⟩ ?_); intro m1981 o1981)
        refine Br.ff ?_
        refine Br.ff ?_
        refine StillVC.run (StillVC.loadON o1981 0 rfl ty24 rfl rfl rfl ?_)
        refine StillVC.run (StillVC.loadON o1981 2 rfl ty24 rfl rfl rfl ?_)
        refine CallVC.ret (mul_spec (a1, a2) (c1, c2) _ ha hc) ?_
        rintro _ h54 ⟨rfl, oc54⟩
        have p54 := oc54.thenE (by assumption)
        rw [mulR_ok ka kc, hu]
        (refine RunVC.storeL p54 3 rfl ty24 rfl (by decide) (And.intro ⟨rfl, rfl⟩ ?_); intro m2000 o2000)
        refine StillVC.run (StillVC.loadON o2000 1 rfl ty24 rfl rfl rfl ?_)
        refine StillVC.run (StillVC.loadON o2000 2 rfl ty24 rfl rfl rfl ?_)
        refine CallVC.ret (mul_spec (b1, b2) (c1, c2) _ hb hc) ?_
        rintro _ h55 ⟨rfl, oc55⟩
        have p55 := oc55.thenE (by assumption)
        rw [mulR_ok kb kc, hvi]
        rcases hug with ⟨rfl, ku, qu⟩ | ⟨rfl, rfl, rfl, _⟩
        · rcases hvv with ⟨rfl, kv', qv⟩ | ⟨rfl, rfl, rfl, _⟩
          · by_cases hpos : c1 ≤ 0
            · skip
              (refine RunVC.store p55 4 rfl ty24 rfl (by simp) (And.intro ⟨rfl, rfl⟩ ?_); intro m2020 o2020)
              refine Br.tt ?_
              refine StillVC.run (StillVC.fieldAddr st24 rfl rfl rfl ?_)
              refine StillVC.run (StillVC.loadO o2020 2 rfl ty3 rfl rfl ?_)
              refine Br.dec (fun c2023 => ?_) (fun hc => absurd (by omega) hc)
              refine RetVC.one rfl ?_
              exact ⟨by first | rfl | simp, Own.sel (by assumption) [] rfl⟩
            · skip
              (refine RunVC.store p55 4 rfl ty24 rfl (by simp) (And.intro ⟨rfl, rfl⟩ ?_); intro m2040 o2040)
              refine Br.tt ?_
              refine StillVC.run (StillVC.fieldAddr st24 rfl rfl rfl ?_)
              refine StillVC.run (StillVC.loadO o2040 2 rfl ty3 rfl rfl ?_)
              refine Br.dec (fun hc => absurd hc (by omega)) (fun c2043 => ?_)
              refine Br.ndec (fun hc => absurd (by first | omega | assumption | decide | exact rfl) hc) (fun c2044 => ?_)
              refine Br.ndec (fun hc => absurd (by first | omega | assumption | decide | exact rfl) hc) (fun c2045 => ?_)
              refine StillVC.run (StillVC.loadON o2040 3 rfl ty24 rfl rfl rfl ?_)
              refine StillVC.run (StillVC.loadON o2040 4 rfl ty24 rfl rfl rfl ?_)
              refine CallVC.ret (cmp_spec (u1, u2) (v1, v2) _ (okP_i64 ku) (okP_i64 kv')) ?_
              rintro _ h56 ⟨rfl, oc56⟩
              have p56 := oc56.thenE (by assumption)
              rw [ksame _ _ ku kv' (by rw [qu, qv]; exact mulpos kc hpos _ _) (by rw [qu, qv]; exact mulpos kc hpos _ _)]
              refine RetVC.one rfl ?_
              exact ⟨by first | rfl | simp, Own.sel (by assumption) [] rfl⟩
          · by_cases hpos : c1 ≤ 0
            · skip
              (refine RunVC.store p55 4 rfl ty24 rfl (by simp) (And.intro ⟨rfl, rfl⟩ ?_); intro m2080 o2080)
              refine Br.tt ?_
              refine StillVC.run (StillVC.fieldAddr st24 rfl rfl rfl ?_)
              refine StillVC.run (StillVC.loadO o2080 2 rfl ty3 rfl rfl ?_)
              refine Br.dec (fun c2083 => ?_) (fun hc => absurd (by omega) hc)
              refine RetVC.one rfl ?_
              exact ⟨by first | rfl | simp, Own.sel (by assumption) [] rfl⟩
            · skip
              (refine RunVC.store p55 4 rfl ty24 rfl (by simp) (And.intro ⟨rfl, rfl⟩ ?_); intro m2100 o2100)
              refine Br.tt ?_
              refine StillVC.run (StillVC.fieldAddr st24 rfl rfl rfl ?_)
              refine StillVC.run (StillVC.loadO o2100 2 rfl ty3 rfl rfl ?_)
              refine Br.dec (fun hc => absurd hc (by omega)) (fun c2103 => ?_)
              refine Br.ndec (fun hc => absurd (by first | omega | assumption | decide | exact rfl) hc) (fun c2104 => ?_)
              refine Br.tt ?_
              refine RetVC.one rfl ?_
              exact ⟨by first | rfl | simp, Own.sel (by assumption) [] rfl⟩
        · by_cases hpos : c1 ≤ 0
          · skip
            (refine RunVC.store p55 4 rfl ty24 rfl (by simp) (And.intro ⟨rfl, rfl⟩ ?_); intro m2120 o2120)
            refine Br.tt ?_
            refine StillVC.run (StillVC.fieldAddr st24 rfl rfl rfl ?_)
            refine StillVC.run (StillVC.loadO o2120 2 rfl ty3 rfl rfl ?_)
            refine Br.dec (fun c2123 => ?_) (fun hc => absurd (by omega) hc)
            refine RetVC.one rfl ?_
            exact ⟨by first | rfl | simp, Own.sel (by assumption) [] rfl⟩
          · skip
            (refine RunVC.store p55 4 rfl ty24 rfl (by simp) (And.intro ⟨rfl, rfl⟩ ?_); intro m2140 o2140)
            refine Br.tt ?_
            refine StillVC.run (StillVC.fieldAddr st24 rfl rfl rfl ?_)
            refine StillVC.run (StillVC.loadO o2140 2 rfl ty3 rfl rfl ?_)
            refine Br.dec (fun hc => absurd hc (by omega)) (fun c2143 => ?_)
            refine Br.tt ?_
            refine RetVC.one rfl ?_
            exact ⟨by first | rfl | simp, Own.sel (by assumption) [] rfl⟩

end Go.Proofs.YtemijanhigjmmaaDoor
