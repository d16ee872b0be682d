/-
  The reference's Cast.
-/
import Derived.Test.YtffpaippmfafjaaGreatDoorStructs
import Derived.Test.YtffpaippmfafjaaGreatDoorFnRefC
namespace Go.Proofs.YtffpaippmfafjaaGreatDoor
open Go

set_option maxHeartbeats 4000000 in
set_option maxRecDepth 100000 in
theorem rcast_spec (k n : Int) (t : List UInt8) (kind : Int) (h : Heap) (hl : t.length ≤ 500000) :
    SpecR Tryz.prog 16 [valV k n t, .int .i64 kind] h fun r h' => (∃ k' n' t' e, r = .tuple ⟨[valV k' n' t', .int .i64 e]⟩ ∧ CastR k n t kind k' n' t' e) ∧ Own h [] h' := by
  have o0 := Own.refl h
  show SpecR Tryz.prog 16 [.agg ⟨[.int .i64 k, .int .i64 n, .string ⟨⟨t⟩⟩]⟩, .int .i64 kind] h _
  refine Spec.enter Tryz.func16 rfl Tryz.ntmps16 (by kernel_rfl) ?_
  (refine RunVC.boxO o0 rfl ?_; intro b10 m10 o10)
  (refine RunVC.alloc o10 ty23 ?_; intro b11 m11 o11)
  refine StillVC.run (StillVC.loadON o11 0 rfl ty23 rfl rfl rfl ?_)
  refine CallVC.ret (rvalid_spec k n t _ (by omega)) ?_
  rintro _ m16 ⟨rfl, ov⟩
  have o16 : Own h [box b10 [.int .i64 k, .int .i64 n, .string ⟨⟨t⟩⟩] 23, box b11 [.int .i64 0, .int .i64 0, .string ⟨⟨[]⟩⟩] 23] m16 := ov.thenE (by assumption)
  clear ov
  by_cases hv : validP k n t
  case neg =>
    rw [decide_eq_false hv]
    have hC : CastR k n t kind 0 0 [] 1 := by unfold CastR; rw [if_pos (.inl hv)]; exact ⟨rfl, rfl, rfl, rfl⟩
    refine Br.tt ?_
    refine Br.tt ?_
    refine StillVC.run (StillVC.buildK st23 ?_)
    (refine RunVC.storeL o16 1 rfl ty23 rfl (by decide) (And.intro ⟨rfl, rfl⟩ ?_); intro m21 o21)
    first | refine RetVC.cell2 rfl o21 1 rfl ty23 rfl rfl ?_ | refine RetVC.cell1 rfl o21 1 rfl ty23 rfl rfl ?_ | refine RetVC.cellTT rfl o21 1 rfl ty23 rfl rfl ?_
    exact ⟨⟨0, 0, [], 1, rfl, hC⟩, Own.sel (by assumption) [] rfl⟩
  rw [decide_eq_true hv]
  by_cases hr : kind < 1
  · have hC : CastR k n t kind 0 0 [] 1 := by unfold CastR; rw [if_pos (.inr (.inl hr))]; exact ⟨rfl, rfl, rfl, rfl⟩
    refine Br.ff ?_
    refine Br.dec (fun c25 => ?_) (fun hc => absurd (by omega) hc)
    refine Br.tt ?_
    refine StillVC.run (StillVC.buildK st23 ?_)
    (refine RunVC.storeL o16 1 rfl ty23 rfl (by decide) (And.intro ⟨rfl, rfl⟩ ?_); intro m27 o27)
    first | refine RetVC.cell2 rfl o27 1 rfl ty23 rfl rfl ?_ | refine RetVC.cell1 rfl o27 1 rfl ty23 rfl rfl ?_ | refine RetVC.cellTT rfl o27 1 rfl ty23 rfl rfl ?_
    exact ⟨⟨0, 0, [], 1, rfl, hC⟩, Own.sel (by assumption) [] rfl⟩
  by_cases hr2 : 4 < kind
  · have hC : CastR k n t kind 0 0 [] 1 := by unfold CastR; rw [if_pos (.inr (.inr hr2))]; exact ⟨rfl, rfl, rfl, rfl⟩
    refine Br.ff ?_
    refine Br.dec (fun hc => absurd hc (by omega)) (fun c30 => ?_)
    refine Br.dec (fun c31 => ?_) (fun hc => absurd (by omega) hc)
    refine StillVC.run (StillVC.buildK st23 ?_)
    (refine RunVC.storeL o16 1 rfl ty23 rfl (by decide) (And.intro ⟨rfl, rfl⟩ ?_); intro m33 o33)
    first | refine RetVC.cell2 rfl o33 1 rfl ty23 rfl rfl ?_ | refine RetVC.cell1 rfl o33 1 rfl ty23 rfl rfl ?_ | refine RetVC.cellTT rfl o33 1 rfl ty23 rfl rfl ?_
    exact ⟨⟨0, 0, [], 1, rfl, hC⟩, Own.sel (by assumption) [] rfl⟩
  have ng : ¬ (¬ validP k n t ∨ kind < 1 ∨ 4 < kind) := by rintro (h | h | h); exact h hv; exact hr h; exact hr2 h
  by_cases hk : k = kind
  · have hC : CastR k n t kind k n t 0 := by unfold CastR; rw [if_neg ng, if_pos (.inl hk)]; exact ⟨rfl, rfl, rfl, rfl⟩
    refine Br.ff ?_
    refine Br.dec (fun hc => absurd hc (by omega)) (fun c40 => ?_)
    refine Br.dec (fun hc => absurd hc (by omega)) (fun c41 => ?_)
    refine StillVC.run (StillVC.fieldAddr st23 rfl rfl rfl ?_)
    refine StillVC.run (StillVC.loadO o16 0 rfl ty3 rfl rfl ?_)
    refine Br.dec (fun hc => absurd hc (by omega)) (fun c44 => ?_)
    refine StillVC.run (StillVC.fieldAddr st23 rfl rfl rfl ?_)
    refine StillVC.run (StillVC.loadO o16 0 rfl ty3 rfl rfl ?_)
    refine Br.dec (fun c47 => ?_) (fun hc => absurd (by omega) hc)
    refine StillVC.run (StillVC.loadON o16 0 rfl ty23 rfl rfl rfl ?_)
    (refine RunVC.storeL o16 1 rfl ty23 rfl (by decide) (And.intro ⟨rfl, rfl⟩ ?_); intro m49 o49)
    first | refine RetVC.cell2 rfl o49 1 rfl ty23 rfl rfl ?_ | refine RetVC.cell1 rfl o49 1 rfl ty23 rfl rfl ?_ | refine RetVC.cellTT rfl o49 1 rfl ty23 rfl rfl ?_
    exact ⟨⟨k, n, t, 0, rfl, hC⟩, Own.sel (by assumption) [] rfl⟩
  by_cases hk0 : k = 0
  · have hC : CastR k n t kind k n t 0 := by unfold CastR; rw [if_neg ng, if_pos (.inr hk0)]; exact ⟨rfl, rfl, rfl, rfl⟩
    refine Br.ff ?_
    refine Br.dec (fun hc => absurd hc (by omega)) (fun c50 => ?_)
    refine Br.dec (fun hc => absurd hc (by omega)) (fun c51 => ?_)
    refine StillVC.run (StillVC.fieldAddr st23 rfl rfl rfl ?_)
    refine StillVC.run (StillVC.loadO o16 0 rfl ty3 rfl rfl ?_)
    refine Br.dec (fun c54 => ?_) (fun hc => absurd (by omega) hc)
    refine Br.tt ?_
    refine StillVC.run (StillVC.loadON o16 0 rfl ty23 rfl rfl rfl ?_)
    (refine RunVC.storeL o16 1 rfl ty23 rfl (by decide) (And.intro ⟨rfl, rfl⟩ ?_); intro m56 o56)
    first | refine RetVC.cell2 rfl o56 1 rfl ty23 rfl rfl ?_ | refine RetVC.cell1 rfl o56 1 rfl ty23 rfl rfl ?_ | refine RetVC.cellTT rfl o56 1 rfl ty23 rfl rfl ?_
    exact ⟨⟨k, n, t, 0, rfl, hC⟩, Own.sel (by assumption) [] rfl⟩
  have ng2 : ¬ (k = kind ∨ k = 0) := by omega
  by_cases h1 : kind = 1
  · have hC : CastR k n t kind 1 0 (valT k n t) 0 := by unfold CastR; rw [if_neg ng, if_neg ng2, if_pos h1]; exact ⟨rfl, rfl, rfl, rfl⟩
    refine Br.ff ?_
    refine Br.dec (fun hc => absurd hc (by omega)) (fun c60 => ?_)
    refine Br.dec (fun hc => absurd hc (by omega)) (fun c61 => ?_)
    refine StillVC.run (StillVC.fieldAddr st23 rfl rfl rfl ?_)
    refine StillVC.run (StillVC.loadO o16 0 rfl ty3 rfl rfl ?_)
    refine Br.dec (fun hc => absurd hc (by omega)) (fun c64 => ?_)
    refine StillVC.run (StillVC.fieldAddr st23 rfl rfl rfl ?_)
    refine StillVC.run (StillVC.loadO o16 0 rfl ty3 rfl rfl ?_)
    refine Br.dec (fun hc => absurd hc (by omega)) (fun c67 => ?_)
    refine Br.dec (fun c68 => ?_) (fun hc => absurd (by omega) hc)
    refine StillVC.run (StillVC.loadON o16 0 rfl ty23 rfl rfl rfl ?_)
    refine CallVC.ret (rtext_spec k n t _ (by omega)) ?_
    rintro _ m66 ⟨rfl, op⟩
    have o66 := op.thenE (by assumption)
    clear op
    refine StillVC.run (StillVC.buildK st23 ?_)
    refine And.intro rfl ?_
    refine And.intro rfl ?_
    (refine RunVC.storeL o66 1 rfl ty23 rfl (by decide) (And.intro ⟨rfl, rfl⟩ ?_); intro m68 o68)
    first | refine RetVC.cell2 rfl o68 1 rfl ty23 rfl rfl ?_ | refine RetVC.cell1 rfl o68 1 rfl ty23 rfl rfl ?_ | refine RetVC.cellTT rfl o68 1 rfl ty23 rfl rfl ?_
    subst h1
    exact ⟨⟨1, 0, valT k n t, 0, rfl, hC⟩, Own.sel (by assumption) [] rfl⟩
  by_cases hk1 : k = 1
  · subst hk1
    refine Br.ff ?_
    refine Br.dec (fun hc => absurd hc (by omega)) (fun c70 => ?_)
    refine Br.dec (fun hc => absurd hc (by omega)) (fun c71 => ?_)
    refine StillVC.run (StillVC.fieldAddr st23 rfl rfl rfl ?_)
    refine StillVC.run (StillVC.loadO o16 0 rfl ty3 rfl rfl ?_)
    refine Br.ff ?_
    refine StillVC.run (StillVC.fieldAddr st23 rfl rfl rfl ?_)
    refine StillVC.run (StillVC.loadO o16 0 rfl ty3 rfl rfl ?_)
    refine Br.dec (fun hc => absurd hc (by omega)) (fun c76 => ?_)
    refine Br.dec (fun hc => absurd hc (by omega)) (fun c77 => ?_)
    refine StillVC.run (StillVC.fieldAddr st23 rfl rfl rfl ?_)
    refine StillVC.run (StillVC.loadO o16 0 rfl ty3 rfl rfl ?_)
    refine Br.tt ?_
    refine StillVC.run (StillVC.fieldAddr st23 rfl rfl rfl ?_)
    refine StillVC.run (StillVC.loadO o16 0 rfl ty9 rfl rfl ?_)
    refine CallVC.ret (rparse_spec t _ (by omega)) ?_
    rintro _ m80 ⟨⟨pk, pn, pt, pe, rfl, hP⟩, op⟩
    have o80 := op.thenE (by assumption)
    clear op
    have hC : CastR 1 n t kind (if pe = 0 ∧ pk = kind then pk else 0) (if pe = 0 ∧ pk = kind then pn else 0) (if pe = 0 ∧ pk = kind then pt else []) (if pe = 0 ∧ pk = kind then 0 else 15) := by
      unfold CastR
      rw [if_neg ng, if_neg ng2, if_neg h1, if_pos rfl]
      refine ⟨pk, pn, pt, pe, hP, ?_⟩
      split <;> simp_all
    by_cases hg : pe = 0 ∧ pk = kind
    · simp only [if_pos hg] at hC
      obtain ⟨g1, g2⟩ := hg
      (refine RunVC.alloc o80 ty23 ?_; intro b82 m82 o82)
      (refine RunVC.storeL o82 2 rfl ty23 rfl (by decide) (And.intro ⟨rfl, rfl⟩ ?_); intro m83 o83)
      refine Br.ndec (fun hc => absurd (by first | omega | assumption | decide | exact rfl) hc) (fun c84 => ?_)
      refine StillVC.run (StillVC.fieldAddr st23 rfl rfl rfl ?_)
      refine StillVC.run (StillVC.loadO o83 2 rfl ty3 rfl rfl ?_)
      refine Br.ndec (fun hc => absurd (by first | omega | assumption | decide | exact rfl) hc) (fun c87 => ?_)
      refine StillVC.run (StillVC.loadON o83 2 rfl ty23 rfl rfl rfl ?_)
      (refine RunVC.storeL o83 1 rfl ty23 rfl (by decide) (And.intro ⟨rfl, rfl⟩ ?_); intro m89 o89)
      first | refine RetVC.cell2 rfl o89 1 rfl ty23 rfl rfl ?_ | refine RetVC.cell1 rfl o89 1 rfl ty23 rfl rfl ?_ | refine RetVC.cellTT rfl o89 1 rfl ty23 rfl rfl ?_
      exact ⟨⟨pk, pn, pt, 0, rfl, hC⟩, Own.sel (by assumption) [] rfl⟩
    · simp only [if_neg hg] at hC
      (refine RunVC.alloc o80 ty23 ?_; intro b90 m90 o90)
      (refine RunVC.storeL o90 2 rfl ty23 rfl (by decide) (And.intro ⟨rfl, rfl⟩ ?_); intro m91 o91)
      refine Br.ndec (fun c92 => ?_) (fun c92 => ?_)
      refine Br.tt ?_
      refine StillVC.run (StillVC.buildK st23 ?_)
      (refine RunVC.storeL o91 1 rfl ty23 rfl (by decide) (And.intro ⟨rfl, rfl⟩ ?_); intro m94 o94)
      first | refine RetVC.cell2 rfl o94 1 rfl ty23 rfl rfl ?_ | refine RetVC.cell1 rfl o94 1 rfl ty23 rfl rfl ?_ | refine RetVC.cellTT rfl o94 1 rfl ty23 rfl rfl ?_
      rotate_left
      refine StillVC.run (StillVC.fieldAddr st23 rfl rfl rfl ?_)
      refine StillVC.run (StillVC.loadO o91 2 rfl ty3 rfl rfl ?_)
      refine Br.ndec (fun c97 => ?_) (fun hc => absurd hc (by first | omega | assumption | decide | exact rfl))
      refine StillVC.run (StillVC.buildK st23 ?_)
      (refine RunVC.storeL o91 1 rfl ty23 rfl (by decide) (And.intro ⟨rfl, rfl⟩ ?_); intro m99 o99)
      first | refine RetVC.cell2 rfl o99 1 rfl ty23 rfl rfl ?_ | refine RetVC.cell1 rfl o99 1 rfl ty23 rfl rfl ?_ | refine RetVC.cellTT rfl o99 1 rfl ty23 rfl rfl ?_
      all_goals first | exact ⟨⟨0, 0, [], 15, rfl, hC⟩, Own.sel (by assumption) [] rfl⟩ | omega
  by_cases h4 : k = 4 ∨ kind = 4
  · have hC : CastR k n t kind 0 0 [] 10 := by unfold CastR; rw [if_neg ng, if_neg ng2, if_neg h1, if_neg hk1, if_pos h4]; exact ⟨rfl, rfl, rfl, rfl⟩
    refine Br.ff ?_
    refine Br.dec (fun hc => absurd hc (by omega)) (fun c100 => ?_)
    refine Br.dec (fun hc => absurd hc (by omega)) (fun c101 => ?_)
    refine StillVC.run (StillVC.fieldAddr st23 rfl rfl rfl ?_)
    refine StillVC.run (StillVC.loadO o16 0 rfl ty3 rfl rfl ?_)
    refine Br.dec (fun hc => absurd hc (by omega)) (fun c104 => ?_)
    refine StillVC.run (StillVC.fieldAddr st23 rfl rfl rfl ?_)
    refine StillVC.run (StillVC.loadO o16 0 rfl ty3 rfl rfl ?_)
    refine Br.dec (fun hc => absurd hc (by omega)) (fun c107 => ?_)
    refine Br.dec (fun hc => absurd hc (by omega)) (fun c108 => ?_)
    refine StillVC.run (StillVC.fieldAddr st23 rfl rfl rfl ?_)
    refine StillVC.run (StillVC.loadO o16 0 rfl ty3 rfl rfl ?_)
    refine Br.dec (fun hc => absurd hc (by omega)) (fun c111 => ?_)
    refine StillVC.run (StillVC.fieldAddr st23 rfl rfl rfl ?_)
    refine StillVC.run (StillVC.loadO o16 0 rfl ty3 rfl rfl ?_)
    refine Br.dec (fun c114 => ?_) (fun c114 => ?_)
    refine Br.tt ?_
    refine StillVC.run (StillVC.buildK st23 ?_)
    (refine RunVC.storeL o16 1 rfl ty23 rfl (by decide) (And.intro ⟨rfl, rfl⟩ ?_); intro m116 o116)
    first | refine RetVC.cell2 rfl o116 1 rfl ty23 rfl rfl ?_ | refine RetVC.cell1 rfl o116 1 rfl ty23 rfl rfl ?_ | refine RetVC.cellTT rfl o116 1 rfl ty23 rfl rfl ?_
    rotate_left
    refine Br.dec (fun c117 => ?_) (fun hc => absurd (by omega) hc)
    refine StillVC.run (StillVC.buildK st23 ?_)
    (refine RunVC.storeL o16 1 rfl ty23 rfl (by decide) (And.intro ⟨rfl, rfl⟩ ?_); intro m119 o119)
    first | refine RetVC.cell2 rfl o119 1 rfl ty23 rfl rfl ?_ | refine RetVC.cell1 rfl o119 1 rfl ty23 rfl rfl ?_ | refine RetVC.cellTT rfl o119 1 rfl ty23 rfl rfl ?_
    all_goals exact ⟨⟨0, 0, [], 10, rfl, hC⟩, Own.sel (by assumption) [] rfl⟩
  have ht0 : t = [] := by
    rcases valT_cases hv with ⟨e, _⟩ | ⟨e, _⟩ | ⟨_, _, _, e, _⟩ | ⟨_, _, _, e, _⟩ | ⟨e, _⟩ | ⟨e, _⟩ <;> first | exact e | omega
  subst ht0
  refine Br.ff ?_
  refine Br.dec (fun hc => absurd hc (by omega)) (fun c110 => ?_)
  refine Br.dec (fun hc => absurd hc (by omega)) (fun c111 => ?_)
  refine StillVC.run (StillVC.fieldAddr st23 rfl rfl rfl ?_)
  refine StillVC.run (StillVC.loadO o16 0 rfl ty3 rfl rfl ?_)
  refine Br.dec (fun hc => absurd hc (by omega)) (fun c114 => ?_)
  refine StillVC.run (StillVC.fieldAddr st23 rfl rfl rfl ?_)
  refine StillVC.run (StillVC.loadO o16 0 rfl ty3 rfl rfl ?_)
  refine Br.dec (fun hc => absurd hc (by omega)) (fun c117 => ?_)
  refine Br.dec (fun hc => absurd hc (by omega)) (fun c118 => ?_)
  refine StillVC.run (StillVC.fieldAddr st23 rfl rfl rfl ?_)
  refine StillVC.run (StillVC.loadO o16 0 rfl ty3 rfl rfl ?_)
  refine Br.dec (fun hc => absurd hc (by omega)) (fun c121 => ?_)
  refine StillVC.run (StillVC.fieldAddr st23 rfl rfl rfl ?_)
  refine StillVC.run (StillVC.loadO o16 0 rfl ty3 rfl rfl ?_)
  refine Br.dec (fun hc => absurd hc (by omega)) (fun c124 => ?_)
  refine Br.dec (fun hc => absurd hc (by omega)) (fun c125 => ?_)
  refine StillVC.run (StillVC.fieldAddr st23 rfl rfl rfl ?_)
  refine StillVC.run (StillVC.loadO o16 0 rfl ty3 rfl rfl ?_)
  refine StillVC.run (StillVC.buildK st23 ?_)
  refine And.intro rfl ?_
  refine And.intro rfl ?_
  (refine RunVC.alloc o16 ty23 ?_; intro b129 m129 o129)
  (refine RunVC.storeL o129 2 rfl ty23 rfl (by decide) (And.intro ⟨rfl, rfl⟩ ?_); intro m130 o130)
  refine StillVC.run (StillVC.loadON o130 2 rfl ty23 rfl rfl rfl ?_)
  refine CallVC.ret (rvalid_spec kind n [] _ (by simp)) ?_
  rintro _ m130 ⟨rfl, ov⟩
  have o130 := ov.thenE (by assumption)
  clear ov
  by_cases hw : validP kind n []
  · have hC : CastR k n [] kind kind n [] 0 := by unfold CastR; rw [if_neg ng, if_neg ng2, if_neg h1, if_neg hk1, if_neg h4, if_pos hw]; exact ⟨rfl, rfl, rfl, rfl⟩
    rw [decide_eq_true hw]
    refine Br.ff ?_
    refine StillVC.run (StillVC.loadON o130 2 rfl ty23 rfl rfl rfl ?_)
    (refine RunVC.storeL o130 1 rfl ty23 rfl (by decide) (And.intro ⟨rfl, rfl⟩ ?_); intro m133 o133)
    first | refine RetVC.cell2 rfl o133 1 rfl ty23 rfl rfl ?_ | refine RetVC.cell1 rfl o133 1 rfl ty23 rfl rfl ?_ | refine RetVC.cellTT rfl o133 1 rfl ty23 rfl rfl ?_
    exact ⟨⟨kind, n, [], 0, rfl, hC⟩, Own.sel (by assumption) [] rfl⟩
  · have hC : CastR k n [] kind 0 0 [] 15 := by unfold CastR; rw [if_neg ng, if_neg ng2, if_neg h1, if_neg hk1, if_neg h4, if_neg hw]; exact ⟨rfl, rfl, rfl, rfl⟩
    rw [decide_eq_false hw]
    refine Br.tt ?_
    refine StillVC.run (StillVC.buildK st23 ?_)
    (refine RunVC.storeL o130 1 rfl ty23 rfl (by decide) (And.intro ⟨rfl, rfl⟩ ?_); intro m141 o141)
    first | refine RetVC.cell2 rfl o141 1 rfl ty23 rfl rfl ?_ | refine RetVC.cell1 rfl o141 1 rfl ty23 rfl rfl ?_ | refine RetVC.cellTT rfl o141 1 rfl ty23 rfl rfl ?_
    exact ⟨⟨0, 0, [], 15, rfl, hC⟩, Own.sel (by assumption) [] rfl⟩

end Go.Proofs.YtffpaippmfafjaaGreatDoor
