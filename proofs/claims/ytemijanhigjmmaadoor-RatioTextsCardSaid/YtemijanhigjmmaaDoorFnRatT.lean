/-
  The statement RatioTexts of chapter 1, walked.
-/
import Derived.Test.YtemijanhigjmmaaDoorStructs
import Derived.Test.YtemijanhigjmmaaDoorFnRatPack
namespace Go.Proofs.YtemijanhigjmmaaDoor
open Go

theorem ex0 : parseP [] = ((0, 0), 6) := by
  rcases parseP_cases [] with ⟨a, ha, he, _⟩ | ⟨h, _⟩
  · have := (textR_nil a).1 he
    rw [ha] at this
    cases this
  · exact h

theorem textR_short (a : Int × Int) (ha : i64P a) : (textR a).length ≤ 50 := by
  obtain ⟨h1, h2⟩ := ha
  have l1 := itoa_short a.1 h1.1 h1.2
  have l2 := itoa_short a.2 h2.1 h2.2
  unfold textR
  split
  · split
    · simp
      omega
    · omega
  · simp

set_option maxHeartbeats 4000000 in
set_option maxRecDepth 100000 in
theorem texts_spec (a : Int × Int) (t : List UInt8) (h : Heap) (ha : i64P a) (hl : t.length ≤ 9223372036854775807) (ht : TabH h) (hv : VarH h) :
    SpecR Tryd.prog 5 [ratV a, .string ⟨⟨t⟩⟩] h fun v h' => v = .bool true ∧ Own h [] h' := by
  obtain ⟨a1, a2⟩ := a
  show SpecR Tryd.prog 5 [.agg ⟨[.int .i64 a1, .int .i64 a2]⟩, .string ⟨⟨t⟩⟩] h _
  have hshort := textR_short (a1, a2) ha
  refine Spec.enter Tryd.func5 rfl Tryd.ntmps5 (by kernel_rfl) ?_
  have o0 := Own.refl h
  (refine RunVC.boxO o0 rfl ?_; intro b10 m10 o10)
  refine CallVC.ret (head_spec _ (ht.ext (Own.ext (by assumption))) (hv.ext (Own.ext (by assumption)))) ?_
  rintro _ h1 ⟨rfl, oc1⟩
  have p1 := oc1.thenE (by assumption)
  by_cases hlong : 1000 < t.length
  · refine StillVC.run (StillVC.lenS rfl str9 ?_)
    refine Br.dec (fun c21 => ?_) (fun hc => absurd (by omega) hc)
    refine RetVC.one rfl ?_
    exact ⟨rfl, Own.sel (by assumption) [] rfl⟩
  refine StillVC.run (StillVC.lenS rfl str9 ?_)
  refine Br.dec (fun hc => absurd hc (by omega)) (fun c31 => ?_)
  refine StillVC.run (StillVC.loadON p1 0 rfl ty24 rfl rfl rfl ?_)
  refine CallVC.ret (text_spec (a1, a2) _ ha (ht.ext (Own.ext (by assumption)))) ?_
  rintro _ h2 ⟨rfl, oc2⟩
  have p2 := oc2.thenE (by assumption)
  refine StillVC.run (StillVC.loadON p2 0 rfl ty24 rfl rfl rfl ?_)
  refine CallVC.ret (valid_spec (a1, a2) _ ha) ?_
  rintro _ h3 ⟨rfl, oc3⟩
  have p3 := oc3.thenE (by assumption)
  cases ka : okP (a1, a2) with
  | true =>
    have hne : textR (a1, a2) ≠ [] := fun e => by rw [(textR_nil _).1 e] at ka; cases ka
    have hpt := parseP_text ka
    generalize textR (a1, a2) = s at *
    refine StillVC.run (StillVC.eqB bool4 rfl rfl ?_)
    refine Br.ffE (by simp [hne]; done) ?_
    refine CallVC.ret (parse_spec s _ (by omega) (ht.ext (Own.ext (by assumption))) (hv.ext (Own.ext (by assumption)))) ?_
    rintro _ h4 ⟨rfl, oc4⟩
    have p4 := oc4.thenE (by assumption)
    rw [hpt]
    (refine RunVC.alloc p4 ty24 ?_; intro b60 m60 o60)
    (refine RunVC.storeL o60 1 rfl ty24 rfl (by decide) (And.intro ⟨rfl, rfl⟩ ?_); intro m61 o61)
    refine Br.ttE (by simp [hne]; done) ?_
    refine StillVC.run (StillVC.loadON o61 1 rfl ty24 rfl rfl rfl ?_)
    refine StillVC.run (StillVC.loadON o61 0 rfl ty24 rfl rfl rfl ?_)
    refine StillVC.run (StillVC.neS pl24 rfl rfl rfl rfl ?_)
    refine Br.ffE (by simp [hne]; done) ?_
    refine Br.ffE (by simp [hne]; done) ?_
    refine Br.ffE (by simp [hne]; done) ?_
    refine Br.ff ?_
    refine CallVC.ret (parse_spec t _ (by omega) (ht.ext (Own.ext (by assumption))) (hv.ext (Own.ext (by assumption)))) ?_
    rintro _ h5 ⟨rfl, oc5⟩
    have p5 := oc5.thenE (by assumption)
    rcases parseP_cases t with ⟨⟨x, y⟩, kx, hx, hp⟩ | ⟨hp, _⟩
    · rw [hp]
      (refine RunVC.alloc p5 ty24 ?_; intro b70 m70 o70)
      (refine RunVC.storeL o70 2 rfl ty24 rfl (by decide) (And.intro ⟨rfl, rfl⟩ ?_); intro m71 o71)
      refine Br.ndec (fun hc => absurd (by first | omega | assumption | decide | exact rfl) hc) (fun c72 => ?_)
      refine Br.tt ?_
      refine StillVC.run (StillVC.loadON o71 2 rfl ty24 rfl rfl rfl ?_)
      refine CallVC.ret (valid_spec (x, y) _ (okP_i64 kx)) ?_
      rintro _ h6 ⟨rfl, oc6⟩
      have p6 := oc6.thenE (by assumption)
      rw [kx]
      refine Br.tt ?_
      refine StillVC.run (StillVC.loadON p6 2 rfl ty24 rfl rfl rfl ?_)
      refine CallVC.ret (text_spec (x, y) _ (okP_i64 kx) (ht.ext (Own.ext (by assumption)))) ?_
      rintro _ h7 ⟨rfl, oc7⟩
      have p7 := oc7.thenE (by assumption)
      rw [hx]
      refine RetVC.one rfl ?_
      exact ⟨by first | rfl | simp, Own.sel (by assumption) [] rfl⟩
    · rw [hp]
      (refine RunVC.alloc p5 ty24 ?_; intro b100 m100 o100)
      (refine RunVC.storeL o100 2 rfl ty24 rfl (by decide) (And.intro ⟨rfl, rfl⟩ ?_); intro m101 o101)
      refine Br.tt ?_
      refine Br.tt ?_
      refine Br.tt ?_
      refine StillVC.run (StillVC.loadON o101 2 rfl ty24 rfl rfl rfl ?_)
      refine StillVC.run (StillVC.buildK st24 ?_)
      refine StillVC.run (StillVC.eqS pl24 rfl rfl rfl rfl ?_)
      refine RetVC.one rfl ?_
      exact ⟨by first | rfl | simp, Own.sel (by assumption) [] rfl⟩
  | false =>
    have hnil := (textR_nil _).2 ka
    rw [hnil]
    refine StillVC.run (StillVC.eqB bool4 rfl rfl ?_)
    refine Br.ff ?_
    refine CallVC.ret (parse_spec [] _ (by simp) (ht.ext (Own.ext (by assumption))) (hv.ext (Own.ext (by assumption)))) ?_
    rintro _ h4 ⟨rfl, oc4⟩
    have p4 := oc4.thenE (by assumption)
    rw [ex0]
    (refine RunVC.alloc p4 ty24 ?_; intro b160 m160 o160)
    (refine RunVC.storeL o160 1 rfl ty24 rfl (by decide) (And.intro ⟨rfl, rfl⟩ ?_); intro m161 o161)
    refine Br.ff ?_
    refine Br.tt ?_
    refine Br.ff ?_
    refine CallVC.ret (parse_spec t _ (by omega) (ht.ext (Own.ext (by assumption))) (hv.ext (Own.ext (by assumption)))) ?_
    rintro _ h5 ⟨rfl, oc5⟩
    have p5 := oc5.thenE (by assumption)
    rcases parseP_cases t with ⟨⟨x, y⟩, kx, hx, hp⟩ | ⟨hp, _⟩
    · rw [hp]
      (refine RunVC.alloc p5 ty24 ?_; intro b170 m170 o170)
      (refine RunVC.storeL o170 2 rfl ty24 rfl (by decide) (And.intro ⟨rfl, rfl⟩ ?_); intro m171 o171)
      refine Br.ndec (fun hc => absurd (by first | omega | assumption | decide | exact rfl) hc) (fun c172 => ?_)
      refine Br.tt ?_
      refine StillVC.run (StillVC.loadON o171 2 rfl ty24 rfl rfl rfl ?_)
      refine CallVC.ret (valid_spec (x, y) _ (okP_i64 kx)) ?_
      rintro _ h6 ⟨rfl, oc6⟩
      have p6 := oc6.thenE (by assumption)
      rw [kx]
      refine Br.tt ?_
      refine StillVC.run (StillVC.loadON p6 2 rfl ty24 rfl rfl rfl ?_)
      refine CallVC.ret (text_spec (x, y) _ (okP_i64 kx) (ht.ext (Own.ext (by assumption)))) ?_
      rintro _ h7 ⟨rfl, oc7⟩
      have p7 := oc7.thenE (by assumption)
      rw [hx]
      refine RetVC.one rfl ?_
      exact ⟨by first | rfl | simp, Own.sel (by assumption) [] rfl⟩
    · rw [hp]
      (refine RunVC.alloc p5 ty24 ?_; intro b200 m200 o200)
      (refine RunVC.storeL o200 2 rfl ty24 rfl (by decide) (And.intro ⟨rfl, rfl⟩ ?_); intro m201 o201)
      refine Br.tt ?_
      refine Br.tt ?_
      refine Br.tt ?_
      refine StillVC.run (StillVC.loadON o201 2 rfl ty24 rfl rfl rfl ?_)
      refine StillVC.run (StillVC.buildK st24 ?_)
      refine StillVC.run (StillVC.eqS pl24 rfl rfl rfl rfl ?_)
      refine RetVC.one rfl ?_
      exact ⟨by first | rfl | simp, Own.sel (by assumption) [] rfl⟩

end Go.Proofs.YtemijanhigjmmaaDoor
