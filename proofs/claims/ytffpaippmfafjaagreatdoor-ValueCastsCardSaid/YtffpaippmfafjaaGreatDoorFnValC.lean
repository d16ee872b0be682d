/-
  The statement ValueCasts of chapter 2, walked.
-/
import Derived.Test.YtffpaippmfafjaaGreatDoorStructs
import Derived.Test.YtffpaippmfafjaaGreatDoorFnValX
namespace Go.Proofs.YtffpaippmfafjaaGreatDoor
open Go

theorem cast_fail {k n : Int} {t : List UInt8} {kind k' n' : Int} {t' : List UInt8} {e : Int} (h : CastR k n t kind k' n' t' e) (he : e ≠ 0) : k' = 0 ∧ n' = 0 ∧ t' = [] ∧ (e = 1 ↔ ¬ validP k n t ∨ kind < 1 ∨ 4 < kind) := by
  unfold CastR at h
  split at h
  · rename_i g; obtain ⟨rfl, rfl, rfl, rfl⟩ := h; exact ⟨rfl, rfl, rfl, ⟨fun _ => g, fun _ => rfl⟩⟩
  rename_i g
  split at h
  · exact absurd h.2.2.2 he
  split at h
  · exact absurd h.2.2.2 he
  split at h
  · obtain ⟨pk, pn, pt, pe, _, h⟩ := h
    split at h
    · exact absurd h.2.2.2 he
    · obtain ⟨rfl, rfl, rfl, rfl⟩ := h; exact ⟨rfl, rfl, rfl, ⟨fun q => absurd q (by decide), fun q => absurd q g⟩⟩
  split at h
  · obtain ⟨rfl, rfl, rfl, rfl⟩ := h; exact ⟨rfl, rfl, rfl, ⟨fun q => absurd q (by decide), fun q => absurd q g⟩⟩
  split at h
  · exact absurd h.2.2.2 he
  · obtain ⟨rfl, rfl, rfl, rfl⟩ := h; exact ⟨rfl, rfl, rfl, ⟨fun q => absurd q (by decide), fun q => absurd q g⟩⟩

theorem valT_kind {k n : Int} {t : List UInt8} (h : validP k n t) (hk : k ≠ 1) : t = [] ∧ (valT k n t).length ≤ 30 := by
  rcases valT_cases h with ⟨_, _, e0, e⟩ | ⟨_, _, hl, e⟩ | ⟨_, _, _, e0, e⟩ | ⟨_, _, _, e0, e⟩ | ⟨_, _, e0, e⟩ | ⟨_, _, e0, e⟩
  · exact ⟨e0, by rw [e]; decide⟩
  · omega
  · have := itoa_short n (by omega) (by omega)
    exact ⟨e0, by rw [e]; omega⟩
  · have := itoa_short n (by omega) (by omega)
    exact ⟨e0, by rw [e]; simp; omega⟩
  · exact ⟨e0, by rw [e]; decide⟩
  · exact ⟨e0, by rw [e]; decide⟩

theorem valT_short {k n : Int} {t : List UInt8} (h : validP k n t) : t.length ≤ 200 := by
  rcases valT_cases h with ⟨_, _, e0, e⟩ | ⟨_, _, hl, e⟩ | ⟨_, _, _, e0, e⟩ | ⟨_, _, _, e0, e⟩ | ⟨_, _, e0, e⟩ | ⟨_, _, e0, e⟩ <;> first | exact hl | (rw [e0]; decide)

theorem valid_text {t : List UInt8} (h : t.length ≤ 200) : validP 1 0 t := .inr (.inl ⟨rfl, rfl, h⟩)

theorem cast_ok {k n : Int} {t : List UInt8} {kind k' n' : Int} {t' : List UInt8} {e : Int} (h : CastR k n t kind k' n' t' e) (he : e = 0) (htl : k ≠ 0 → k ≠ 1 → kind = 1 → (valT k n t).length ≤ 200) : validP k n t ∧ 1 ≤ kind ∧ kind ≤ 4 ∧ validP k' n' t' ∧ (k' = 0 ↔ k = 0) ∧ (k' ≠ 0 → k' = kind) := by
  subst he
  unfold CastR at h
  split at h
  · exact absurd h.2.2.2 (by decide)
  rename_i g
  have hv : validP k n t := Decidable.byContradiction fun q => g (.inl q)
  refine ⟨hv, by omega, by omega, ?_⟩
  split at h
  · obtain ⟨rfl, rfl, rfl, _⟩ := h
    exact ⟨hv, Iff.rfl, by omega⟩
  rename_i g2
  split at h
  · rename_i g3
    obtain ⟨rfl, rfl, rfl, _⟩ := h
    refine ⟨valid_text (htl (by omega) (by omega) g3), by omega, by omega⟩
  split at h
  · obtain ⟨pk, pn, pt, pe, hP, h⟩ := h
    split at h
    · rename_i g4
      obtain ⟨rfl, rfl, rfl, _⟩ := h
      rcases hP with ⟨hpv, _, _⟩ | ⟨_, _, _, h4, _⟩
      · refine ⟨hpv, by omega, by omega⟩
      · omega
    · exact absurd h.2.2.2 (by decide)
  split at h
  · exact absurd h.2.2.2 (by decide)
  split at h
  · rename_i g4
    obtain ⟨rfl, rfl, rfl, _⟩ := h
    refine ⟨g4, by omega, by omega⟩
  · exact absurd h.2.2.2 (by decide)

theorem cast_text {k n : Int} {t : List UInt8} (hv : validP k n t) (h0 : k ≠ 0) (h1 : k ≠ 1) : CastR k n t 1 1 0 (valT k n t) 0 := by
  unfold CastR
  rw [if_neg (by rintro (g | g | g); exact g hv; omega; omega), if_neg (by omega), if_pos rfl]
  exact ⟨rfl, rfl, rfl, rfl⟩

theorem valid_kind {k n : Int} {t : List UInt8} (hv : validP k n t) : 0 ≤ k ∧ k ≤ 4 := by
  rcases valT_cases hv with ⟨e, _⟩ | ⟨e, _⟩ | ⟨e, _⟩ | ⟨e, _⟩ | ⟨e, _⟩ | ⟨e, _⟩ <;> omega

theorem cast_back {k n : Int} {t : List UInt8} (hv : validP k n t) (h0 : k ≠ 0) (h1 : k ≠ 1) : CastR 1 0 (valT k n t) k k n t 0 := by
  have hr := valid_kind hv
  have hl := (valT_kind hv h1).2
  unfold CastR
  rw [if_neg (by rintro (g | g | g); exact g (valid_text (by omega)); omega; omega), if_neg (by omega), if_neg h1, if_pos rfl]
  exact ⟨k, n, t, 0, parseR_of hv rfl, by rw [if_pos ⟨rfl, rfl⟩]; exact ⟨rfl, rfl, rfl, rfl⟩⟩

theorem cast_day {n : Int} {t : List UInt8} (hv : validP 3 n t) : CastR 3 n t 2 2 n t 0 ∧ CastR 2 n t 3 3 n t 0 ∧ validP 2 n t := by
  have hw : validP 2 n t := by
    rcases valT_cases hv with ⟨e, _⟩ | ⟨e, _⟩ | ⟨e, _⟩ | ⟨_, a, b, e, _⟩ | ⟨e, _⟩ | ⟨e, _⟩ <;> first | omega | exact .inr (.inr (.inl ⟨rfl, by omega, by omega, e⟩))
  refine ⟨?_, ?_, hw⟩
  · unfold CastR
    rw [if_neg (by rintro (g | g | g); exact g hv; omega; omega), if_neg (by omega), if_neg (by omega), if_neg (by omega), if_neg (by omega), if_pos hw]
    exact ⟨rfl, rfl, rfl, rfl⟩
  · unfold CastR
    rw [if_neg (by rintro (g | g | g); exact g hw; omega; omega), if_neg (by omega), if_neg (by omega), if_neg (by omega), if_neg (by omega), if_pos hv]
    exact ⟨rfl, rfl, rfl, rfl⟩

set_option maxHeartbeats 8000000 in
set_option maxRecDepth 100000 in
theorem casts_spec (k1 n1 : Int) (t1 : List UInt8) (kind : Int) (h : Heap) (hT : TabH h) (hV : VarH h) :
    SpecR Tryz.prog 6 [valV k1 n1 t1, .int .i64 kind] h fun v h' => v = .bool true ∧ Own h [] h' := by
  show SpecR Tryz.prog 6 [.agg ⟨[.int .i64 k1, .int .i64 n1, .string ⟨⟨t1⟩⟩]⟩, .int .i64 kind] h _
  refine Spec.enter Tryz.func6 rfl Tryz.ntmps6 (by kernel_rfl) ?_
  have o0 := Own.refl h
  (refine RunVC.boxO o0 rfl ?_; intro b10 m10 o10)
  refine CallVC.ret (head_spec _ (hT.ext (Own.ext (by assumption))) (hV.ext (Own.ext (by assumption)))) ?_
  rintro _ h1 ⟨rfl, oc⟩
  have p1 : Own h [box b10 [.int .i64 k1, .int .i64 n1, .string ⟨⟨t1⟩⟩] 23] h1 := oc.thenE (by assumption)
  clear oc
  refine StillVC.run (StillVC.loadON p1 0 rfl ty23 rfl rfl rfl ?_)
  (refine RunVC.litN p1 sl42 ty23 rfl rfl (by decide) ?_)
  refine And.intro rfl ?_
  intro b22 m22 o22
  refine CallVC.ret (short_spec [⟨k1, n1, t1⟩] _ _ (Own.boxArrN (by assumption) 1 rfl rfl (by decide)) (by simp)) ?_
  rintro _ h2 ⟨rfl, oc⟩
  have p2 := oc.thenE (by assumption)
  clear oc p1
  by_cases hsh : shortP [⟨k1, n1, t1⟩]
  case neg =>
    rw [decide_eq_false hsh]
    refine Br.tt ?_
    refine RetVC.one rfl ?_
    exact ⟨rfl, Own.sel (by assumption) [] rfl⟩
  rw [decide_eq_true hsh]
  have hs1 : t1.length ≤ 500 := hsh ⟨k1, n1, t1⟩ (by simp)
  refine Br.ff ?_
  refine StillVC.run (StillVC.loadON p2 0 rfl ty23 rfl rfl rfl ?_)
  refine CallVC.ret (cast_spec k1 n1 t1 kind _ (by omega) (hV.ext (Own.ext (by assumption))) (hT.ext (Own.ext (by assumption)))) ?_
  rintro _ h60 ⟨⟨kx, nx, tx, ex, rfl, hPx⟩, oc⟩
  have p60 := oc.thenE (by assumption)
  clear oc
  by_cases hex : ex = 0
  case neg =>
    obtain ⟨rfl, rfl, rfl, hiff⟩ := cast_fail hPx hex
    by_cases hv : validP k1 n1 t1
    · have hE : decide (ex = 1) = (decide (kind < 1) || decide (4 < kind)) := by rw [Bool.eq_iff_iff]; simp [hiff, hv]
      (refine RunVC.alloc p60 ty23 ?_; intro b70 m70 o70)
      (refine RunVC.storeL o70 2 rfl ty23 rfl (by decide) (And.intro ⟨rfl, rfl⟩ ?_); intro m71 o71)
      refine Br.ndec (fun c72 => ?_) (fun hc => absurd hc (by first | omega | assumption | decide | exact rfl))
      refine Br.tt ?_
      refine StillVC.run (StillVC.loadON o71 2 rfl ty23 rfl rfl rfl ?_)
      refine StillVC.run (StillVC.buildK st23 ?_)
      refine StillVC.run (StillVC.eqS pl23 rfl rfl rfl rfl ?_)
      refine Br.tt ?_
      refine StillVC.run (StillVC.loadON o71 0 rfl ty23 rfl rfl rfl ?_)
      refine CallVC.ret (valid_spec k1 n1 t1 _ (by omega)) ?_
      rintro _ h80 ⟨rfl, oc80⟩
      have p80 := oc80.thenE (by assumption)
      rw [decide_eq_true hv]
      by_cases hk1 : kind < 1
      · have he1 : ex = 1 := hiff.2 (.inr (.inl hk1))
        refine Br.ff ?_
        refine Br.dec (fun c90 => ?_) (fun hc => absurd (by omega) hc)
        refine StillVC.run (StillVC.eqB bool4 rfl rfl ?_)
        refine RetVC.one rfl ?_
        exact ⟨by simp [he1], Own.sel (by assumption) [] rfl⟩
      · by_cases hk4 : 4 < kind
        · have he1 : ex = 1 := hiff.2 (.inr (.inr hk4))
          refine Br.ff ?_
          refine Br.dec (fun hc => absurd hc (by omega)) (fun c100 => ?_)
          refine StillVC.run (StillVC.eqB bool4 rfl rfl ?_)
          refine RetVC.one rfl ?_
          exact ⟨by simp [he1, hk4], Own.sel (by assumption) [] rfl⟩
        · have he1 : ex ≠ 1 := fun q => by rcases hiff.1 q with g | g | g; exact g hv; exact hk1 g; exact hk4 g
          refine Br.ff ?_
          refine Br.dec (fun hc => absurd hc (by omega)) (fun c110 => ?_)
          refine StillVC.run (StillVC.eqB bool4 rfl rfl ?_)
          refine RetVC.one rfl ?_
          exact ⟨by simp [he1, hk4], Own.sel (by assumption) [] rfl⟩
    · have he1 : ex = 1 := hiff.2 (.inl hv)
      (refine RunVC.alloc p60 ty23 ?_; intro b120 m120 o120)
      (refine RunVC.storeL o120 2 rfl ty23 rfl (by decide) (And.intro ⟨rfl, rfl⟩ ?_); intro m121 o121)
      refine Br.ndec (fun c122 => ?_) (fun hc => absurd hc (by first | omega | assumption | decide | exact rfl))
      refine Br.tt ?_
      refine StillVC.run (StillVC.loadON o121 2 rfl ty23 rfl rfl rfl ?_)
      refine StillVC.run (StillVC.buildK st23 ?_)
      refine StillVC.run (StillVC.eqS pl23 rfl rfl rfl rfl ?_)
      refine Br.tt ?_
      refine StillVC.run (StillVC.loadON o121 0 rfl ty23 rfl rfl rfl ?_)
      refine CallVC.ret (valid_spec k1 n1 t1 _ (by omega)) ?_
      rintro _ h130 ⟨rfl, oc130⟩
      have p130 := oc130.thenE (by assumption)
      rw [decide_eq_false hv]
      refine Br.tt ?_
      refine StillVC.run (StillVC.eqB bool4 rfl rfl ?_)
      refine RetVC.one rfl ?_
      exact ⟨by simp [he1], Own.sel (by assumption) [] rfl⟩
  obtain ⟨hv, hk1, hk4, hvx, hz, hkx⟩ := cast_ok hPx hex (fun _ h1 _ => by
    by_cases hv : validP k1 n1 t1
    · have := (valT_kind hv h1).2; omega
    · rw [valT_bad hv]; decide)
  have htx := valT_short hvx
  have hr := valid_kind hv
  (refine RunVC.alloc p60 ty23 ?_; intro b200 m200 o200)
  (refine RunVC.storeL o200 2 rfl ty23 rfl (by decide) (And.intro ⟨rfl, rfl⟩ ?_); intro m201 o201)
  refine Br.ndec (fun hc => absurd (by first | omega | assumption | decide | exact rfl) hc) (fun c202 => ?_)
  refine StillVC.run (StillVC.loadON o201 2 rfl ty23 rfl rfl rfl ?_)
  refine CallVC.ret (valid_spec kx nx tx _ (by omega)) ?_
  rintro _ h210 ⟨rfl, oc210⟩
  have p210 := oc210.thenE (by assumption)
  rw [decide_eq_true hvx]
  have hz2 : decide (kx = 0) = decide (k1 = 0) := decide_eq_decide.2 hz
  by_cases h0 : k1 = 0
  · have h0x : kx = 0 := hz.2 h0
    refine Br.ff ?_
    refine StillVC.run (StillVC.fieldAddr st23 rfl rfl rfl ?_)
    refine StillVC.run (StillVC.loadO p210 2 rfl ty3 rfl rfl ?_)
    refine StillVC.run (StillVC.fieldAddr st23 rfl rfl rfl ?_)
    refine StillVC.run (StillVC.loadO p210 0 rfl ty3 rfl rfl ?_)
    refine StillVC.run (StillVC.neB bool4 rfl rfl ?_)
    refine Br.ndec (fun hc => absurd (by first | omega | assumption | decide | exact rfl) hc) (fun c225 => ?_)
    refine StillVC.run (StillVC.fieldAddr st23 rfl rfl rfl ?_)
    refine StillVC.run (StillVC.loadO p210 2 rfl ty3 rfl rfl ?_)
    refine Br.ndec (fun hc => absurd (by first | omega | assumption | decide | exact rfl) hc) (fun c228 => ?_)
    refine Br.ff ?_
    refine StillVC.run (StillVC.fieldAddr st23 rfl rfl rfl ?_)
    refine StillVC.run (StillVC.loadO p210 0 rfl ty3 rfl rfl ?_)
    refine Br.dec (fun c231 => ?_) (fun hc => absurd (by omega) hc)
    refine Br.tt ?_
    refine RetVC.one rfl ?_
    exact ⟨by simp, Own.sel (by assumption) [] rfl⟩
  have h0x : kx ≠ 0 := fun q => h0 (hz.1 q)
  have hkx := hkx h0x
  by_cases h1 : k1 = 1
  · refine Br.ff ?_
    refine StillVC.run (StillVC.fieldAddr st23 rfl rfl rfl ?_)
    refine StillVC.run (StillVC.loadO p210 2 rfl ty3 rfl rfl ?_)
    refine StillVC.run (StillVC.fieldAddr st23 rfl rfl rfl ?_)
    refine StillVC.run (StillVC.loadO p210 0 rfl ty3 rfl rfl ?_)
    refine StillVC.run (StillVC.neB bool4 rfl rfl ?_)
    refine Br.ndec (fun hc => absurd (by first | omega | assumption | decide | exact rfl) hc) (fun c235 => ?_)
    refine StillVC.run (StillVC.fieldAddr st23 rfl rfl rfl ?_)
    refine StillVC.run (StillVC.loadO p210 2 rfl ty3 rfl rfl ?_)
    refine Br.ndec (fun c238 => ?_) (fun hc => absurd hc (by first | omega | assumption | decide | exact rfl))
    refine StillVC.run (StillVC.fieldAddr st23 rfl rfl rfl ?_)
    refine StillVC.run (StillVC.loadO p210 2 rfl ty3 rfl rfl ?_)
    refine Br.ndec (fun hc => absurd (by first | omega | assumption | decide | exact rfl) hc) (fun c241 => ?_)
    refine StillVC.run (StillVC.fieldAddr st23 rfl rfl rfl ?_)
    refine StillVC.run (StillVC.loadO p210 0 rfl ty3 rfl rfl ?_)
    refine Br.dec (fun hc => absurd hc (by omega)) (fun c244 => ?_)
    refine StillVC.run (StillVC.fieldAddr st23 rfl rfl rfl ?_)
    refine StillVC.run (StillVC.loadO p210 0 rfl ty3 rfl rfl ?_)
    refine Br.dec (fun c247 => ?_) (fun hc => absurd (by omega) hc)
    refine RetVC.one rfl ?_
    exact ⟨by simp, Own.sel (by assumption) [] rfl⟩
  refine Br.ff ?_
  refine StillVC.run (StillVC.fieldAddr st23 rfl rfl rfl ?_)
  refine StillVC.run (StillVC.loadO p210 2 rfl ty3 rfl rfl ?_)
  refine StillVC.run (StillVC.fieldAddr st23 rfl rfl rfl ?_)
  refine StillVC.run (StillVC.loadO p210 0 rfl ty3 rfl rfl ?_)
  refine StillVC.run (StillVC.neB bool4 rfl rfl ?_)
  refine Br.ndec (fun hc => absurd (by first | omega | assumption | decide | exact rfl) hc) (fun c245 => ?_)
  refine StillVC.run (StillVC.fieldAddr st23 rfl rfl rfl ?_)
  refine StillVC.run (StillVC.loadO p210 2 rfl ty3 rfl rfl ?_)
  refine Br.ndec (fun c248 => ?_) (fun hc => absurd hc (by first | omega | assumption | decide | exact rfl))
  refine StillVC.run (StillVC.fieldAddr st23 rfl rfl rfl ?_)
  refine StillVC.run (StillVC.loadO p210 2 rfl ty3 rfl rfl ?_)
  refine Br.ndec (fun hc => absurd (by first | omega | assumption | decide | exact rfl) hc) (fun c251 => ?_)
  refine StillVC.run (StillVC.fieldAddr st23 rfl rfl rfl ?_)
  refine StillVC.run (StillVC.loadO p210 0 rfl ty3 rfl rfl ?_)
  refine Br.dec (fun hc => absurd hc (by omega)) (fun c254 => ?_)
  refine StillVC.run (StillVC.fieldAddr st23 rfl rfl rfl ?_)
  refine StillVC.run (StillVC.loadO p210 0 rfl ty3 rfl rfl ?_)
  refine Br.dec (fun hc => absurd hc (by omega)) (fun c257 => ?_)
  refine StillVC.run (StillVC.loadON p210 0 rfl ty23 rfl rfl rfl ?_)
  refine CallVC.ret (cast_spec k1 n1 t1 1 _ (by omega) (hV.ext (Own.ext (by assumption))) (hT.ext (Own.ext (by assumption)))) ?_
  rintro _ h250 ⟨⟨ks, ns, ts, es, rfl, hPs⟩, oc⟩
  have p250 := oc.thenE (by assumption)
  clear oc
  obtain ⟨rfl, rfl, rfl, rfl⟩ := hPs.det (cast_text hv h0 h1)
  have hvl := (valT_kind hv h1).2
  (refine RunVC.alloc p250 ty23 ?_; intro b260 m260 o260)
  (refine RunVC.storeL o260 3 rfl ty23 rfl (by decide) (And.intro ⟨rfl, rfl⟩ ?_); intro m261 o261)
  refine StillVC.run (StillVC.loadON o261 3 rfl ty23 rfl rfl rfl ?_)
  refine StillVC.run (StillVC.fieldAddr st23 rfl rfl rfl ?_)
  refine StillVC.run (StillVC.loadO o261 0 rfl ty3 rfl rfl ?_)
  refine CallVC.ret (cast_spec 1 0 (valT k1 n1 t1) k1 _ (by omega) (hV.ext (Own.ext (by assumption))) (hT.ext (Own.ext (by assumption)))) ?_
  rintro _ h270 ⟨⟨kg, ng, tg, eg, rfl, hPg⟩, oc⟩
  have p270 := oc.thenE (by assumption)
  clear oc
  obtain ⟨rfl, rfl, rfl, rfl⟩ := hPg.det (cast_back hv h0 h1)
  (refine RunVC.alloc p270 ty23 ?_; intro b280 m280 o280)
  (refine RunVC.storeL o280 4 rfl ty23 rfl (by decide) (And.intro ⟨rfl, rfl⟩ ?_); intro m281 o281)
  refine DrawVC.intro [0, 1, 2, 3, 4, 5, 6, 9, 10, 11, 12, 16, 17] [7, 8, 13, 14] [] [0, 1, 2, 3, 4, 5, 6, 7, 8, 9, 10, 11, 12, 13, 14, 15, 16, 17] mixed (by kernel_rfl) rfl (fun _ _ _ _ h => h) ?_
  refine Br.ff ?_
  refine Br.ff ?_
  refine StillVC.loadON o281 4 rfl ty23 rfl rfl rfl ?_
  refine StillVC.loadON o281 0 rfl ty23 rfl rfl rfl ?_
  refine StillVC.neS pl23 rfl rfl rfl rfl ?_
  refine Br.ffE (by first | omega | (simp; done)) ?_
  refine StillVC.fieldAddr st23 rfl rfl rfl ?_
  refine StillVC.loadO o281 3 rfl ty9 rfl rfl ?_
  refine StillVC.loadON o281 0 rfl ty23 rfl rfl rfl ?_
  refine CallVC.ret (text_spec kg ng tg _ (by omega) (hT.ext (Own.ext (by assumption)))) ?_
  rintro _ h290 ⟨rfl, oc290⟩
  have p290 := oc290.thenE (by assumption)
  by_cases h3 : kg = 3
  case neg =>
    refine And.intro oc290.ext ?_
    refine Br.ndec (fun hc => absurd (by first | omega | assumption | decide | exact rfl) hc) (fun c300 => ?_)
    refine StillVC.run (StillVC.fieldAddr st23 rfl rfl rfl ?_)
    refine StillVC.run (StillVC.loadO p290 0 rfl ty3 rfl rfl ?_)
    refine Br.ndec (fun c303 => ?_) (fun hc => absurd hc (by first | omega | assumption | decide | exact rfl))
    refine RetVC.one rfl ?_
    exact ⟨by simp, Own.sel (by assumption) [] rfl⟩
  subst h3
  obtain ⟨hd1, hd2, hv2⟩ := cast_day hv
  refine And.intro oc290.ext ?_
  refine Br.ndec (fun hc => absurd (by first | omega | assumption | decide | exact rfl) hc) (fun c310 => ?_)
  refine StillVC.run (StillVC.fieldAddr st23 rfl rfl rfl ?_)
  refine StillVC.run (StillVC.loadO p290 0 rfl ty3 rfl rfl ?_)
  refine Br.ff ?_
  refine StillVC.run (StillVC.loadON p290 0 rfl ty23 rfl rfl rfl ?_)
  refine CallVC.ret (cast_spec 3 ng tg 2 _ (by omega) (hV.ext (Own.ext (by assumption))) (hT.ext (Own.ext (by assumption)))) ?_
  rintro _ h320 ⟨⟨ku, nu, tu, eu, rfl, hPu⟩, oc⟩
  have p320 := oc.thenE (by assumption)
  clear oc
  obtain ⟨rfl, rfl, rfl, rfl⟩ := hPu.det hd1
  (refine RunVC.alloc p320 ty23 ?_; intro b330 m330 o330)
  (refine RunVC.storeL o330 5 rfl ty23 rfl (by decide) (And.intro ⟨rfl, rfl⟩ ?_); intro m331 o331)
  refine StillVC.run (StillVC.loadON o331 5 rfl ty23 rfl rfl rfl ?_)
  refine CallVC.ret (cast_spec 2 nu tu 3 _ (by omega) (hV.ext (Own.ext (by assumption))) (hT.ext (Own.ext (by assumption)))) ?_
  rintro _ h340 ⟨⟨kw, nw, tw, ew, rfl, hPw⟩, oc⟩
  have p340 := oc.thenE (by assumption)
  clear oc
  obtain ⟨rfl, rfl, rfl, rfl⟩ := hPw.det hd2
  (refine RunVC.alloc p340 ty23 ?_; intro b350 m350 o350)
  (refine RunVC.storeL o350 6 rfl ty23 rfl (by decide) (And.intro ⟨rfl, rfl⟩ ?_); intro m351 o351)
  refine Br.tt ?_
  refine Br.tt ?_
  refine Br.tt ?_
  refine StillVC.run (StillVC.loadON o351 6 rfl ty23 rfl rfl rfl ?_)
  refine StillVC.run (StillVC.loadON o351 0 rfl ty23 rfl rfl rfl ?_)
  refine StillVC.run (StillVC.eqS pl23 rfl rfl rfl rfl ?_)
  refine Br.ttE (by first | omega | (simp; done)) ?_
  refine StillVC.run (StillVC.fieldAddr st23 rfl rfl rfl ?_)
  refine StillVC.run (StillVC.loadO o351 5 rfl ty3 rfl rfl ?_)
  refine StillVC.run (StillVC.fieldAddr st23 rfl rfl rfl ?_)
  refine StillVC.run (StillVC.loadO o351 0 rfl ty3 rfl rfl ?_)
  refine RetVC.one rfl ?_
  exact ⟨by simp, Own.sel (by assumption) [] rfl⟩

end Go.Proofs.YtffpaippmfafjaaGreatDoor
