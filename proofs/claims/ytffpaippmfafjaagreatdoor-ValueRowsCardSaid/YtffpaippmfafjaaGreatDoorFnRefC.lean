/-
  The reference's Parse.
-/
import Derived.Test.YtffpaippmfafjaaGreatDoorStructs
import Derived.Test.YtffpaippmfafjaaGreatDoorFnRefP
namespace Go.Proofs.YtffpaippmfafjaaGreatDoor
open Go

set_option maxHeartbeats 4000000 in
set_option maxRecDepth 100000 in
theorem rparse_spec (s : List UInt8) (h : Heap) (hl : s.length ≤ 500000) :
    SpecR Tryz.prog 14 [.string ⟨⟨s⟩⟩] h fun r h' => (∃ k n t e, r = .tuple ⟨[valV k n t, .int .i64 e]⟩ ∧ ParseR s k n t e) ∧ Own h [] h' := by
  have o0 := Own.refl h
  refine Spec.enter Tryz.func14 rfl Tryz.ntmps14 (by kernel_rfl) ?_
  by_cases hs : s = []
  · subst hs
    (refine RunVC.alloc o0 ty23 ?_; intro b10 m10 o10)
    refine Br.tt ?_
    refine StillVC.run (StillVC.buildK st23 ?_)
    (refine RunVC.storeL o10 0 rfl ty23 rfl (by decide) (And.intro ⟨rfl, rfl⟩ ?_); intro m12 o12)
    first | refine RetVC.cell2 rfl o12 0 rfl ty23 rfl rfl ?_ | refine RetVC.cell1 rfl o12 0 rfl ty23 rfl rfl ?_ | refine RetVC.cellTT rfl o12 0 rfl ty23 rfl rfl ?_
    exact ⟨⟨0, 0, [], 4, rfl, .inr ⟨rfl, rfl, rfl, rfl, fun _ _ _ hv => valT_ne hv⟩⟩, Own.sel (by assumption) [] rfl⟩
  obtain ⟨c, r, hcr⟩ : ∃ c r, s = c :: r := by
    cases s with
    | nil => exact absurd rfl hs
    | cons c r => exact ⟨c, r, rfl⟩
  have hg : s[0]? = some c := by rw [hcr]; rfl
  have hdr : (s.take (s.length : Int).toNat).drop (Int.toNat 1) = r := by rw [hcr]; simp
  have hlen : s.length = r.length + 1 := by rw [hcr]; rfl
  (refine RunVC.alloc o0 ty23 ?_; intro b20 m20 o20)
  refine Br.dec (fun hc => absurd hc (by omega)) (fun c21 => ?_)
  refine CallVC.ret (number_spec s _ (by omega)) ?_
  rintro _ h1 ⟨rfl, oa⟩
  have o1 := oa.thenE (by assumption)
  clear oa
  by_cases h110 : c = 110
  · have n110 : c.toNat = 110 := by rw [h110]; rfl
    refine StillVC.run (StillVC.buildK st23 ?_)
    refine And.intro rfl ?_
    refine And.intro rfl ?_
    (refine RunVC.alloc o1 ty23 ?_; intro b101 m101 o101)
    (refine RunVC.storeL o101 1 rfl ty23 rfl (by decide) (And.intro ⟨rfl, rfl⟩ ?_); intro m102 o102)
    refine StillVC.run (StillVC.strIdx rfl rfl str9 (by omega) (by assumption) ?_)
    refine Br.dec (fun c104 => ?_) (fun hc => absurd (by omega) hc)
    refine StillVC.run (StillVC.buildK st23 ?_)
    (refine RunVC.store o102 1 rfl ty23 rfl (by simp) (And.intro ⟨rfl, rfl⟩ ?_); intro m106 o106)
    refine StillVC.run (StillVC.loadON o106 1 rfl ty23 rfl rfl rfl ?_)
    refine CallVC.ret (rtext_spec 0 0 [] _ (by simp)) ?_
    rintro _ hp110 ⟨rfl, ob⟩
    have o110 := ob.thenE (by assumption)
    clear ob
    have hP := guess_fin (s := s) (k := 0) (n := 0) (t := []) hs (by rw [hcr, h110]; exact guess_n)
    by_cases hq : valT 0 0 [] = s
    · rw [if_pos hq] at hP
      refine Br.ndec (fun hc => absurd (by first | omega | assumption | decide | exact rfl) hc) (fun c120 => ?_)
      refine StillVC.run (StillVC.loadON o110 1 rfl ty23 rfl rfl rfl ?_)
      (refine RunVC.storeL o110 0 rfl ty23 rfl (by decide) (And.intro ⟨rfl, rfl⟩ ?_); intro m122 o122)
      first | refine RetVC.cell2 rfl o122 0 rfl ty23 rfl rfl ?_ | refine RetVC.cell1 rfl o122 0 rfl ty23 rfl rfl ?_ | refine RetVC.cellTT rfl o122 0 rfl ty23 rfl rfl ?_
      exact ⟨⟨0, 0, [], 0, rfl, hP⟩, Own.sel (by assumption) [] rfl⟩
    · rw [if_neg hq] at hP
      refine Br.ndec (fun c130 => ?_) (fun hc => absurd hc (by first | omega | assumption | decide | exact rfl))
      refine StillVC.run (StillVC.buildK st23 ?_)
      (refine RunVC.storeL o110 0 rfl ty23 rfl (by decide) (And.intro ⟨rfl, rfl⟩ ?_); intro m132 o132)
      first | refine RetVC.cell2 rfl o132 0 rfl ty23 rfl rfl ?_ | refine RetVC.cell1 rfl o132 0 rfl ty23 rfl rfl ?_ | refine RetVC.cellTT rfl o132 0 rfl ty23 rfl rfl ?_
      exact ⟨⟨0, 0, [], 4, rfl, hP⟩, Own.sel (by assumption) [] rfl⟩
  have n110 : c.toNat ≠ 110 := fun e => h110 (UInt8.toNat_inj.1 e)
  by_cases h116 : c = 116
  · have n116 : c.toNat = 116 := by rw [h116]; rfl
    refine StillVC.run (StillVC.buildK st23 ?_)
    refine And.intro rfl ?_
    refine And.intro rfl ?_
    (refine RunVC.alloc o1 ty23 ?_; intro b201 m201 o201)
    (refine RunVC.storeL o201 1 rfl ty23 rfl (by decide) (And.intro ⟨rfl, rfl⟩ ?_); intro m202 o202)
    refine StillVC.run (StillVC.strIdx rfl rfl str9 (by omega) (by assumption) ?_)
    refine Br.dec (fun hc => absurd hc (by omega)) (fun c204 => ?_)
    refine Br.dec (fun c205 => ?_) (fun hc => absurd (by omega) hc)
    refine StillVC.run (StillVC.buildK st23 ?_)
    refine And.intro rfl ?_
    refine And.intro rfl ?_
    (refine RunVC.store o202 1 rfl ty23 rfl (by simp) (And.intro ⟨rfl, rfl⟩ ?_); intro m207 o207)
    refine StillVC.run (StillVC.loadON o207 1 rfl ty23 rfl rfl rfl ?_)
    refine CallVC.ret (rtext_spec 4 1 [] _ (by simp)) ?_
    rintro _ hp220 ⟨rfl, ob⟩
    have o220 := ob.thenE (by assumption)
    clear ob
    have hP := guess_fin (s := s) (k := 4) (n := 1) (t := []) hs (by rw [hcr, h116]; exact guess_tf (by decide))
    by_cases hq : valT 4 1 [] = s
    · rw [if_pos hq] at hP
      refine Br.ndec (fun hc => absurd (by first | omega | assumption | decide | exact rfl) hc) (fun c230 => ?_)
      refine StillVC.run (StillVC.loadON o220 1 rfl ty23 rfl rfl rfl ?_)
      (refine RunVC.storeL o220 0 rfl ty23 rfl (by decide) (And.intro ⟨rfl, rfl⟩ ?_); intro m232 o232)
      first | refine RetVC.cell2 rfl o232 0 rfl ty23 rfl rfl ?_ | refine RetVC.cell1 rfl o232 0 rfl ty23 rfl rfl ?_ | refine RetVC.cellTT rfl o232 0 rfl ty23 rfl rfl ?_
      exact ⟨⟨4, 1, [], 0, rfl, hP⟩, Own.sel (by assumption) [] rfl⟩
    · rw [if_neg hq] at hP
      refine Br.ndec (fun c240 => ?_) (fun hc => absurd hc (by first | omega | assumption | decide | exact rfl))
      refine StillVC.run (StillVC.buildK st23 ?_)
      (refine RunVC.storeL o220 0 rfl ty23 rfl (by decide) (And.intro ⟨rfl, rfl⟩ ?_); intro m242 o242)
      first | refine RetVC.cell2 rfl o242 0 rfl ty23 rfl rfl ?_ | refine RetVC.cell1 rfl o242 0 rfl ty23 rfl rfl ?_ | refine RetVC.cellTT rfl o242 0 rfl ty23 rfl rfl ?_
      exact ⟨⟨0, 0, [], 4, rfl, hP⟩, Own.sel (by assumption) [] rfl⟩
  have n116 : c.toNat ≠ 116 := fun e => h116 (UInt8.toNat_inj.1 e)
  by_cases h102 : c = 102
  · have n102 : c.toNat = 102 := by rw [h102]; rfl
    refine StillVC.run (StillVC.buildK st23 ?_)
    refine And.intro rfl ?_
    refine And.intro rfl ?_
    (refine RunVC.alloc o1 ty23 ?_; intro b301 m301 o301)
    (refine RunVC.storeL o301 1 rfl ty23 rfl (by decide) (And.intro ⟨rfl, rfl⟩ ?_); intro m302 o302)
    refine StillVC.run (StillVC.strIdx rfl rfl str9 (by omega) (by assumption) ?_)
    refine Br.dec (fun hc => absurd hc (by omega)) (fun c304 => ?_)
    refine Br.dec (fun hc => absurd hc (by omega)) (fun c305 => ?_)
    refine Br.dec (fun c306 => ?_) (fun hc => absurd (by omega) hc)
    refine StillVC.run (StillVC.buildK st23 ?_)
    refine And.intro rfl ?_
    (refine RunVC.store o302 1 rfl ty23 rfl (by simp) (And.intro ⟨rfl, rfl⟩ ?_); intro m308 o308)
    refine StillVC.run (StillVC.loadON o308 1 rfl ty23 rfl rfl rfl ?_)
    refine CallVC.ret (rtext_spec 4 0 [] _ (by simp)) ?_
    rintro _ hp320 ⟨rfl, ob⟩
    have o320 := ob.thenE (by assumption)
    clear ob
    have hP := guess_fin (s := s) (k := 4) (n := 0) (t := []) hs (by rw [hcr, h102]; exact guess_tf (by decide))
    by_cases hq : valT 4 0 [] = s
    · rw [if_pos hq] at hP
      refine Br.ndec (fun hc => absurd (by first | omega | assumption | decide | exact rfl) hc) (fun c330 => ?_)
      refine StillVC.run (StillVC.loadON o320 1 rfl ty23 rfl rfl rfl ?_)
      (refine RunVC.storeL o320 0 rfl ty23 rfl (by decide) (And.intro ⟨rfl, rfl⟩ ?_); intro m332 o332)
      first | refine RetVC.cell2 rfl o332 0 rfl ty23 rfl rfl ?_ | refine RetVC.cell1 rfl o332 0 rfl ty23 rfl rfl ?_ | refine RetVC.cellTT rfl o332 0 rfl ty23 rfl rfl ?_
      exact ⟨⟨4, 0, [], 0, rfl, hP⟩, Own.sel (by assumption) [] rfl⟩
    · rw [if_neg hq] at hP
      refine Br.ndec (fun c340 => ?_) (fun hc => absurd hc (by first | omega | assumption | decide | exact rfl))
      refine StillVC.run (StillVC.buildK st23 ?_)
      (refine RunVC.storeL o320 0 rfl ty23 rfl (by decide) (And.intro ⟨rfl, rfl⟩ ?_); intro m342 o342)
      first | refine RetVC.cell2 rfl o342 0 rfl ty23 rfl rfl ?_ | refine RetVC.cell1 rfl o342 0 rfl ty23 rfl rfl ?_ | refine RetVC.cellTT rfl o342 0 rfl ty23 rfl rfl ?_
      exact ⟨⟨0, 0, [], 4, rfl, hP⟩, Own.sel (by assumption) [] rfl⟩
  have n102 : c.toNat ≠ 102 := fun e => h102 (UInt8.toNat_inj.1 e)
  by_cases h64 : c = 64
  · have n64 : c.toNat = 64 := by rw [h64]; rfl
    refine StillVC.run (StillVC.buildK st23 ?_)
    refine And.intro rfl ?_
    refine And.intro rfl ?_
    (refine RunVC.alloc o1 ty23 ?_; intro b401 m401 o401)
    (refine RunVC.storeL o401 1 rfl ty23 rfl (by decide) (And.intro ⟨rfl, rfl⟩ ?_); intro m402 o402)
    refine StillVC.run (StillVC.strIdx rfl rfl str9 (by omega) (by assumption) ?_)
    refine Br.dec (fun hc => absurd hc (by omega)) (fun c404 => ?_)
    refine Br.dec (fun hc => absurd hc (by omega)) (fun c405 => ?_)
    refine Br.dec (fun hc => absurd hc (by omega)) (fun c406 => ?_)
    refine Br.dec (fun c407 => ?_) (fun hc => absurd (by omega) hc)
    refine StillVC.run (StillVC.sliceS str9 rfl ⟨_, rfl⟩ rfl (by omega) (by omega) (by omega) ?_)
    rw [hdr]
    refine CallVC.ret (number_spec r _ (by omega)) ?_
    rintro _ h420 ⟨rfl, oc⟩
    have o420 := oc.thenE (by assumption)
    clear oc
    refine StillVC.run (StillVC.buildK st23 ?_)
    refine And.intro rfl ?_
    refine And.intro rfl ?_
    (refine RunVC.store o420 1 rfl ty23 rfl (by simp) (And.intro ⟨rfl, rfl⟩ ?_); intro m423 o423)
    refine StillVC.run (StillVC.loadON o423 1 rfl ty23 rfl rfl rfl ?_)
    refine CallVC.ret (rtext_spec 3 (numR r) [] _ (by simp)) ?_
    rintro _ hp450 ⟨rfl, ob⟩
    have o450 := ob.thenE (by assumption)
    clear ob
    have hP := guess_fin (s := s) (k := 3) (n := (numR r)) (t := []) hs (by rw [hcr, h64]; exact guess_day)
    by_cases hq : valT 3 (numR r) [] = s
    · rw [if_pos hq] at hP
      refine Br.ndec (fun hc => absurd (by first | omega | assumption | decide | exact rfl) hc) (fun c460 => ?_)
      refine StillVC.run (StillVC.loadON o450 1 rfl ty23 rfl rfl rfl ?_)
      (refine RunVC.storeL o450 0 rfl ty23 rfl (by decide) (And.intro ⟨rfl, rfl⟩ ?_); intro m462 o462)
      first | refine RetVC.cell2 rfl o462 0 rfl ty23 rfl rfl ?_ | refine RetVC.cell1 rfl o462 0 rfl ty23 rfl rfl ?_ | refine RetVC.cellTT rfl o462 0 rfl ty23 rfl rfl ?_
      exact ⟨⟨3, (numR r), [], 0, rfl, hP⟩, Own.sel (by assumption) [] rfl⟩
    · rw [if_neg hq] at hP
      refine Br.ndec (fun c470 => ?_) (fun hc => absurd hc (by first | omega | assumption | decide | exact rfl))
      refine StillVC.run (StillVC.buildK st23 ?_)
      (refine RunVC.storeL o450 0 rfl ty23 rfl (by decide) (And.intro ⟨rfl, rfl⟩ ?_); intro m472 o472)
      first | refine RetVC.cell2 rfl o472 0 rfl ty23 rfl rfl ?_ | refine RetVC.cell1 rfl o472 0 rfl ty23 rfl rfl ?_ | refine RetVC.cellTT rfl o472 0 rfl ty23 rfl rfl ?_
      exact ⟨⟨0, 0, [], 4, rfl, hP⟩, Own.sel (by assumption) [] rfl⟩
  have n64 : c.toNat ≠ 64 := fun e => h64 (UInt8.toNat_inj.1 e)
  by_cases h34 : c = 34
  · have n34 : c.toNat = 34 := by rw [h34]; rfl
    by_cases h402 : s.length ≤ 402
    · refine StillVC.run (StillVC.buildK st23 ?_)
      refine And.intro rfl ?_
      refine And.intro rfl ?_
      (refine RunVC.alloc o1 ty23 ?_; intro b501 m501 o501)
      (refine RunVC.storeL o501 1 rfl ty23 rfl (by decide) (And.intro ⟨rfl, rfl⟩ ?_); intro m502 o502)
      refine StillVC.run (StillVC.strIdx rfl rfl str9 (by omega) (by assumption) ?_)
      refine Br.dec (fun hc => absurd hc (by omega)) (fun c504 => ?_)
      refine Br.dec (fun hc => absurd hc (by omega)) (fun c505 => ?_)
      refine Br.dec (fun hc => absurd hc (by omega)) (fun c506 => ?_)
      refine Br.dec (fun hc => absurd hc (by omega)) (fun c507 => ?_)
      refine Br.dec (fun c508 => ?_) (fun hc => absurd (by omega) hc)
      refine StillVC.run (StillVC.buildK st23 ?_)
      refine And.intro rfl ?_
      (refine RunVC.store o502 1 rfl ty23 rfl (by simp) (And.intro ⟨rfl, rfl⟩ ?_); intro m510 o510)
      refine StillVC.run (StillVC.lenS rfl str9 ?_)
      refine Br.dec (fun c512 => ?_) (fun hc => absurd (by omega) hc)
      refine CallVC.ret (unquoted_spec s _ (by omega)) ?_
      rintro _ h530 ⟨rfl, oc⟩
      have o530 := oc.thenE (by assumption)
      clear oc
      have hd1 : s.drop 1 = r := by rw [hcr]; rfl
      rw [hd1]
      have hu := unqF_le r.length r (Nat.le_refl _)
      refine StillVC.run (StillVC.fieldAddr st23 rfl rfl rfl ?_)
      (refine RunVC.store o530 1 rfl ty9 rfl (by simp) (And.intro ⟨rfl, rfl⟩ ?_); intro m541 o541)
      refine StillVC.run (StillVC.loadON o541 1 rfl ty23 rfl rfl rfl ?_)
      refine CallVC.ret (rtext_spec 1 0 (unqF r) _ (by omega)) ?_
      rintro _ hp560 ⟨rfl, ob⟩
      have o560 := ob.thenE (by assumption)
      clear ob
      have hP := guess_fin (s := s) (k := 1) (n := 0) (t := (unqF r)) hs (by have hg := @guess_text r; rw [if_pos (by omega)] at hg; rw [hcr, h34]; exact hg)
      by_cases hq : valT 1 0 (unqF r) = s
      · rw [if_pos hq] at hP
        refine Br.ndec (fun hc => absurd (by first | omega | assumption | decide | exact rfl) hc) (fun c570 => ?_)
        refine StillVC.run (StillVC.loadON o560 1 rfl ty23 rfl rfl rfl ?_)
        (refine RunVC.storeL o560 0 rfl ty23 rfl (by decide) (And.intro ⟨rfl, rfl⟩ ?_); intro m572 o572)
        first | refine RetVC.cell2 rfl o572 0 rfl ty23 rfl rfl ?_ | refine RetVC.cell1 rfl o572 0 rfl ty23 rfl rfl ?_ | refine RetVC.cellTT rfl o572 0 rfl ty23 rfl rfl ?_
        exact ⟨⟨1, 0, (unqF r), 0, rfl, hP⟩, Own.sel (by assumption) [] rfl⟩
      · rw [if_neg hq] at hP
        refine Br.ndec (fun c580 => ?_) (fun hc => absurd hc (by first | omega | assumption | decide | exact rfl))
        refine StillVC.run (StillVC.buildK st23 ?_)
        (refine RunVC.storeL o560 0 rfl ty23 rfl (by decide) (And.intro ⟨rfl, rfl⟩ ?_); intro m582 o582)
        first | refine RetVC.cell2 rfl o582 0 rfl ty23 rfl rfl ?_ | refine RetVC.cell1 rfl o582 0 rfl ty23 rfl rfl ?_ | refine RetVC.cellTT rfl o582 0 rfl ty23 rfl rfl ?_
        exact ⟨⟨0, 0, [], 4, rfl, hP⟩, Own.sel (by assumption) [] rfl⟩
    · refine StillVC.run (StillVC.buildK st23 ?_)
      refine And.intro rfl ?_
      refine And.intro rfl ?_
      (refine RunVC.alloc o1 ty23 ?_; intro b601 m601 o601)
      (refine RunVC.storeL o601 1 rfl ty23 rfl (by decide) (And.intro ⟨rfl, rfl⟩ ?_); intro m602 o602)
      refine StillVC.run (StillVC.strIdx rfl rfl str9 (by omega) (by assumption) ?_)
      refine Br.dec (fun hc => absurd hc (by omega)) (fun c604 => ?_)
      refine Br.dec (fun hc => absurd hc (by omega)) (fun c605 => ?_)
      refine Br.dec (fun hc => absurd hc (by omega)) (fun c606 => ?_)
      refine Br.dec (fun hc => absurd hc (by omega)) (fun c607 => ?_)
      refine Br.dec (fun c608 => ?_) (fun hc => absurd (by omega) hc)
      refine StillVC.run (StillVC.buildK st23 ?_)
      refine And.intro rfl ?_
      (refine RunVC.store o602 1 rfl ty23 rfl (by simp) (And.intro ⟨rfl, rfl⟩ ?_); intro m610 o610)
      refine StillVC.run (StillVC.lenS rfl str9 ?_)
      refine Br.dec (fun hc => absurd hc (by omega)) (fun c612 => ?_)
      refine StillVC.run (StillVC.loadON o610 1 rfl ty23 rfl rfl rfl ?_)
      refine CallVC.ret (rtext_spec 1 0 [] _ (by simp)) ?_
      rintro _ hp640 ⟨rfl, ob⟩
      have o640 := ob.thenE (by assumption)
      clear ob
      have hP := guess_fin (s := s) (k := 1) (n := 0) (t := []) hs (by have hg := @guess_text r; rw [if_neg (by omega)] at hg; rw [hcr, h34]; exact hg)
      by_cases hq : valT 1 0 [] = s
      · rw [if_pos hq] at hP
        refine Br.ndec (fun hc => absurd (by first | omega | assumption | decide | exact rfl) hc) (fun c650 => ?_)
        refine StillVC.run (StillVC.loadON o640 1 rfl ty23 rfl rfl rfl ?_)
        (refine RunVC.storeL o640 0 rfl ty23 rfl (by decide) (And.intro ⟨rfl, rfl⟩ ?_); intro m652 o652)
        first | refine RetVC.cell2 rfl o652 0 rfl ty23 rfl rfl ?_ | refine RetVC.cell1 rfl o652 0 rfl ty23 rfl rfl ?_ | refine RetVC.cellTT rfl o652 0 rfl ty23 rfl rfl ?_
        exact ⟨⟨1, 0, [], 0, rfl, hP⟩, Own.sel (by assumption) [] rfl⟩
      · rw [if_neg hq] at hP
        refine Br.ndec (fun c660 => ?_) (fun hc => absurd hc (by first | omega | assumption | decide | exact rfl))
        refine StillVC.run (StillVC.buildK st23 ?_)
        (refine RunVC.storeL o640 0 rfl ty23 rfl (by decide) (And.intro ⟨rfl, rfl⟩ ?_); intro m662 o662)
        first | refine RetVC.cell2 rfl o662 0 rfl ty23 rfl rfl ?_ | refine RetVC.cell1 rfl o662 0 rfl ty23 rfl rfl ?_ | refine RetVC.cellTT rfl o662 0 rfl ty23 rfl rfl ?_
        exact ⟨⟨0, 0, [], 4, rfl, hP⟩, Own.sel (by assumption) [] rfl⟩
  have n34 : c.toNat ≠ 34 := fun e => h34 (UInt8.toNat_inj.1 e)
  have hkc : kindB c = 2 := by unfold kindB; rw [if_neg (by omega), if_neg (by omega), if_neg (by omega), if_neg (by omega)]
  refine StillVC.run (StillVC.buildK st23 ?_)
  refine And.intro rfl ?_
  refine And.intro rfl ?_
  (refine RunVC.alloc o1 ty23 ?_; intro b701 m701 o701)
  (refine RunVC.storeL o701 1 rfl ty23 rfl (by decide) (And.intro ⟨rfl, rfl⟩ ?_); intro m702 o702)
  refine StillVC.run (StillVC.strIdx rfl rfl str9 (by omega) (by assumption) ?_)
  refine Br.dec (fun hc => absurd hc (by omega)) (fun c704 => ?_)
  refine Br.dec (fun hc => absurd hc (by omega)) (fun c705 => ?_)
  refine Br.dec (fun hc => absurd hc (by omega)) (fun c706 => ?_)
  refine Br.dec (fun hc => absurd hc (by omega)) (fun c707 => ?_)
  refine Br.dec (fun hc => absurd hc (by omega)) (fun c708 => ?_)
  refine StillVC.run (StillVC.loadON o702 1 rfl ty23 rfl rfl rfl ?_)
  refine CallVC.ret (rtext_spec 2 (numR s) [] _ (by simp)) ?_
  rintro _ hp740 ⟨rfl, ob⟩
  have o740 := ob.thenE (by assumption)
  clear ob
  have hP := guess_fin (s := s) (k := 2) (n := (numR s)) (t := []) hs (by have hg := @guess_num c r hkc; rw [← hcr] at hg; exact hg)
  by_cases hq : valT 2 (numR s) [] = s
  · rw [if_pos hq] at hP
    refine Br.ndec (fun hc => absurd (by first | omega | assumption | decide | exact rfl) hc) (fun c750 => ?_)
    refine StillVC.run (StillVC.loadON o740 1 rfl ty23 rfl rfl rfl ?_)
    (refine RunVC.storeL o740 0 rfl ty23 rfl (by decide) (And.intro ⟨rfl, rfl⟩ ?_); intro m752 o752)
    first | refine RetVC.cell2 rfl o752 0 rfl ty23 rfl rfl ?_ | refine RetVC.cell1 rfl o752 0 rfl ty23 rfl rfl ?_ | refine RetVC.cellTT rfl o752 0 rfl ty23 rfl rfl ?_
    exact ⟨⟨2, (numR s), [], 0, rfl, hP⟩, Own.sel (by assumption) [] rfl⟩
  · rw [if_neg hq] at hP
    refine Br.ndec (fun c760 => ?_) (fun hc => absurd hc (by first | omega | assumption | decide | exact rfl))
    refine StillVC.run (StillVC.buildK st23 ?_)
    (refine RunVC.storeL o740 0 rfl ty23 rfl (by decide) (And.intro ⟨rfl, rfl⟩ ?_); intro m762 o762)
    first | refine RetVC.cell2 rfl o762 0 rfl ty23 rfl rfl ?_ | refine RetVC.cell1 rfl o762 0 rfl ty23 rfl rfl ?_ | refine RetVC.cellTT rfl o762 0 rfl ty23 rfl rfl ?_
    exact ⟨⟨0, 0, [], 4, rfl, hP⟩, Own.sel (by assumption) [] rfl⟩

end Go.Proofs.YtffpaippmfafjaaGreatDoor
