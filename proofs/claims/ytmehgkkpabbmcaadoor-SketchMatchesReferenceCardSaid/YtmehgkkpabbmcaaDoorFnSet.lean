/-
  What a sketch is, and unions, of chapter 5.
-/
import Derived.Test.YtmehgkkpabbmcaaDoorStructs
import Derived.Test.YtmehgkkpabbmcaaDoorFnMake
namespace Go.Proofs.YtmehgkkpabbmcaaDoor
open Go

/- SEARCH BY A PREDICATE -/
def idxL (p : Int → Bool) (zs : List Int) : Int := match zs.findIdx? p with
  | some i => i
  | none => -1

theorem idxL_some {p : Int → Bool} {zs : List Int} {i : Nat} {z : Int} (hz : zs[i]? = some z) (hp : p z = true) (hb : ∀ j, j < i → ∀ y, zs[j]? = some y → p y = false) : idxL p zs = i := by
  have : zs.findIdx? p = some i := by
    rw [List.findIdx?_eq_some_iff_getElem]
    obtain ⟨hi, he⟩ := List.getElem?_eq_some_iff.1 hz
    refine ⟨hi, by rw [he]; exact hp, fun j hj => ?_⟩
    have := hb j hj zs[j] (by simp)
    simp [this]
  simp [idxL, this]

theorem idxL_none {p : Int → Bool} {zs : List Int} (hb : ∀ j, j < zs.length → ∀ y, zs[j]? = some y → p y = false) : idxL p zs = -1 := by
  have : zs.findIdx? p = none := by
    rw [List.findIdx?_eq_none_iff]
    intro x hx
    obtain ⟨j, hj, he⟩ := List.mem_iff_getElem.1 hx
    exact hb j hj x (by simp [hj, he])
  simp [idxL, this]

theorem any_idxL (p : Int → Bool) (zs : List Int) : decide (0 ≤ idxL p zs) = zs.any p := by
  unfold idxL
  cases h : zs.findIdx? p with
  | none =>
    have := List.findIdx?_eq_none_iff.1 h
    have h2 : zs.any p = false := by
      rw [List.any_eq_false]; intro x hx; simp [this x hx]
    rw [h2]; rfl
  | some i =>
    obtain ⟨hi, he, _⟩ := List.findIdx?_eq_some_iff_getElem.1 h
    have h2 : zs.any p = true := List.any_eq_true.2 ⟨zs[i], List.getElem_mem hi, he⟩
    rw [h2]; simp

theorem indexFunc_spec (zs : List Int) (v : Value) (g : FuncId) (cap : List Value) (p : Int → Bool) (h : Heap) (a0 : Arr h v (ints zs)) (hl : zs.length ≤ 1000000000)
    (hf : ∀ z ∈ zs, ∀ h', Ext h h' → SpecR Tryd.prog g (.int .i64 z :: cap) h' fun r h'' => r = .bool (p z) ∧ Own h' [] h'') :
    SpecR Tryd.prog 44 [v, .func (.func g) ⟨[]⟩ ⟨cap⟩] h fun r h' => r = .int .i64 (idxL p zs) ∧ Own h [] h' := by
  refine Spec.enter Tryd.func44 rfl Tryd.ntmps44 (by kernel_rfl) ?_
  have o0 := Own.refl h
  have ln : (ints zs).length = zs.length := by simp
  refine StillVC.run (StillVC.lenAn a0 (by assumption) sl23 ?_)
  refine LoopVC.intro [4, 5, 8, 9, 10, 11, 12, 13, 14, 15, 16, 17, 18] [8] (fun vs hh => ∃ (i : Nat), i ≤ zs.length ∧ vs = [.int .i64 i] ∧ Own h [] hh ∧ ∀ j, j < i → ∀ y, zs[j]? = some y → p y = false) (fun vs _ => match vs with | [.int _ i] => zs.length - i.toNat | _ => 0) ?_ ?_
  · exact ⟨0, by omega, rfl, o0, by simp⟩
  · clear o0
    rintro vs junk h2 ⟨i, hi, rfl, o2, hb⟩
    by_cases hlt : i < zs.length
    · obtain ⟨z, hz⟩ := getx hlt
      refine Br.dec (fun c20 => ?_) (fun hc => absurd (by omega) hc)
      refine StillVC.run (StillVC.idx sl23 ty3 (a0.ext o2.ext) rfl (by omega) (by omega) ?_)
      refine StillVC.run (StillVC.loadM (a0.ext o2.ext) ty3 rfl (by first | assumption | rfl) ?_)
      refine CallVC.ret (hf z (List.mem_of_getElem? hz) _ o2.ext) ?_
      rintro _ h3 ⟨rfl, ob⟩
      have o3 := o2.ext' ob
      cases hpz : p z with
      | true =>
        refine Br.tt ?_
        refine RetVC.one rfl ?_
        exact ⟨by rw [idxL_some hz hpz hb], o3⟩
      | false =>
        refine Br.ff ?_
        refine Ar.i64 (by omega) (by omega) ?_
        refine ⟨rfl, ?_⟩
        refine ⟨⟨i + 1, by omega, rfl, o3, fun j hj y hy => ?_⟩, by simp; omega⟩
        by_cases hji : j = i
        · subst hji; rw [hz] at hy; injection hy with hy; subst hy; exact hpz
        · exact hb j (by omega) y hy
    · refine Br.dec (fun hc => absurd hc (by omega)) (fun c50 => ?_)
      refine RetVC.one rfl ?_
      obtain rfl : i = zs.length := by omega
      exact ⟨by rw [idxL_none hb], o2⟩

theorem containsFunc_spec (zs : List Int) (v : Value) (g : FuncId) (cap : List Value) (p : Int → Bool) (h : Heap) (a0 : Arr h v (ints zs)) (hl : zs.length ≤ 1000000000)
    (hf : ∀ z ∈ zs, ∀ h', Ext h h' → SpecR Tryd.prog g (.int .i64 z :: cap) h' fun r h'' => r = .bool (p z) ∧ Own h' [] h'') :
    SpecR Tryd.prog 35 [v, .func (.func g) ⟨[]⟩ ⟨cap⟩] h fun r h' => r = .bool (zs.any p) ∧ Own h [] h' := by
  refine Spec.enter Tryd.func35 rfl Tryd.ntmps35 (by kernel_rfl) ?_
  refine CallVC.ret (indexFunc_spec zs v g cap p _ a0 hl hf) ?_
  rintro _ h3 ⟨rfl, ob⟩
  refine RetVC.one rfl ?_
  exact ⟨by rw [any_idxL], ob⟩

/- SKETCHES -/
def okB (l : List Int) : Bool := decide (1 ≤ l.length) && decide (l.length ≤ 64) && l.all (fun x => decide (-1 ≤ x) && decide (x < 2147483647) && (decide (x < 0) == decide (l.headD 0 < 0)))

theorem right1_spec (n low high : Int) (b1 b2 : Nat) (h : Heap) (c1 : cellAt h ⟨b1, 0, none⟩ = some (.int .i64 low)) (c2 : cellAt h ⟨b2, 0, none⟩ = some (.int .i64 high)) :
    SpecR Tryd.prog 36 [.int .i64 n, .pointer (some ⟨b1, 0, none⟩), .pointer (some ⟨b2, 0, none⟩)] h fun r h' => r = .bool (decide (n < low) || decide (high < n)) ∧ Own h [] h' := by
  refine Spec.enter Tryd.func36 rfl Tryd.ntmps36 (by kernel_rfl) ?_
  have o0 := Own.refl h
  refine StillVC.run (StillVC.load1 ty3 rfl (by assumption) ?_)
  refine Br.dec (fun c11 => ?_) (fun c11 => ?_)
  refine RetVC.one rfl ?_
  rotate_left
  refine StillVC.run (StillVC.load1 ty3 rfl (by assumption) ?_)
  refine RetVC.one rfl ?_
  · exact ⟨by simp [c11], o0⟩
  · exact ⟨by simp [c11], o0⟩

theorem empty_spec (zs : List Int) (v : Value) (h : Heap) (a0 : Arr h v (ints zs)) (hl : 1 ≤ zs.length) :
    SpecR Tryd.prog 27 [v] h fun r h' => r = .bool (decide (zs.headD 0 = -1)) ∧ Own h [] h' := by
  refine Spec.enter Tryd.func27 rfl Tryd.ntmps27 (by kernel_rfl) ?_
  have o0 := Own.refl h
  have ln : (ints zs).length = zs.length := by simp
  obtain ⟨z, hz⟩ := getx hl
  refine StillVC.run (StillVC.idx sl23 ty3 a0 rfl (by omega) (by omega) ?_)
  refine StillVC.run (StillVC.loadM a0 ty3 rfl (by first | assumption | rfl) ?_)
  refine RetVC.one rfl ?_
  refine ⟨?_, o0⟩
  cases zs with
  | nil => simp at hl
  | cons y ys => simp at hz; subst hz; rfl

theorem headD_mem {zs : List Int} (hl : 1 ≤ zs.length) : zs.headD 0 ∈ zs := by
  cases zs with
  | nil => simp at hl
  | cons y ys => simp

theorem right_eq (zs : List Int) (hl : 1 ≤ zs.length) (h64 : zs.length ≤ 64) (lo hi : Int) (hlh : (zs.headD 0 = -1 ∧ lo = -1 ∧ hi = -1) ∨ (zs.headD 0 ≠ -1 ∧ lo = 0 ∧ hi = 2147483646)) :
    (!(zs.any fun n => decide (n < lo) || decide (hi < n))) = okB zs := by
  unfold okB
  simp only [hl, h64, decide_true, Bool.true_and]
  rw [List.not_any_eq_all_not, Bool.eq_iff_iff]
  have hm := headD_mem hl
  generalize zs.headD 0 = y at hm hlh ⊢
  simp only [List.all_eq_true, Bool.not_or, Bool.and_eq_true, Bool.not_eq_true', decide_eq_false_iff_not, decide_eq_true_eq, beq_iff_eq, decide_eq_decide]
  rcases hlh with ⟨c, rfl, rfl⟩ | ⟨c, rfl, rfl⟩
  · constructor
    · intro H x hx
      have := H x hx
      omega
    · intro H x hx
      have := H x hx
      omega
  · constructor
    · intro H x hx
      have h1 := H x hx
      have h0 := H y hm
      omega
    · intro H x hx
      have h1 := H x hx
      have h0 := H y hm
      omega

theorem right_spec (zs : List Int) (v : Value) (h : Heap) (a0 : Arr h v (ints zs)) (hl : zs.length ≤ 1000000000) :
    SpecR Tryd.prog 25 [v] h fun r h' => r = .bool (okB zs) ∧ Own h [] h' := by
  refine Spec.enter Tryd.func25 rfl Tryd.ntmps25 (by kernel_rfl) ?_
  have o0 := Own.refl h
  have ln : (ints zs).length = zs.length := by simp
  by_cases h0 : zs.length = 0
  · refine StillVC.run (StillVC.lenAn a0 (by assumption) sl23 ?_)
    refine Br.dec (fun c11 => ?_) (fun hc => absurd (by omega) hc)
    refine Br.tt ?_
    refine RetVC.one rfl ?_
    exact ⟨by simp [okB, h0], o0⟩
  · by_cases h64 : 64 < zs.length
    · refine StillVC.run (StillVC.lenAn a0 (by assumption) sl23 ?_)
      refine Br.dec (fun hc => absurd hc (by omega)) (fun c21 => ?_)
      refine StillVC.run (StillVC.lenAn a0 (by assumption) sl23 ?_)
      refine Br.dec (fun c23 => ?_) (fun hc => absurd (by omega) hc)
      refine RetVC.one rfl ?_
      exact ⟨by simp [okB]; omega, o0⟩
    · refine StillVC.run (StillVC.lenAn a0 (by assumption) sl23 ?_)
      refine Br.dec (fun hc => absurd hc (by omega)) (fun c31 => ?_)
      refine StillVC.run (StillVC.lenAn a0 (by assumption) sl23 ?_)
      refine Br.dec (fun hc => absurd hc (by omega)) (fun c33 => ?_)
      (refine RunVC.alloc o0 ty3 ?_; intro b34 m34 o34)
      (refine RunVC.alloc o34 ty3 ?_; intro b35 m35 o35)
      (refine RunVC.store o35 0 rfl ty3 rfl (by simp) (And.intro ⟨rfl, rfl⟩ ?_); intro m36 o36)
      (refine RunVC.store o36 1 rfl ty3 rfl (by simp) (And.intro ⟨rfl, rfl⟩ ?_); intro m37 o37)
      refine CallVC.ret (empty_spec zs v _ (a0.ext o37.ext) (by omega)) ?_
      rintro _ h3 ⟨rfl, ob⟩
      have o3 := o37.ext' ob
      clear o37 o36 o35 o34
      by_cases hy : zs.headD 0 = -1
      · refine Br.dec (fun c40 => ?_) (fun hc => absurd (by omega) hc)
        (refine RunVC.store o3 0 rfl ty3 rfl (by simp) (And.intro ⟨rfl, rfl⟩ ?_); intro m41 o41)
        (refine RunVC.store o41 1 rfl ty3 rfl (by simp) (And.intro ⟨rfl, rfl⟩ ?_); intro m42 o42)
        refine StillVC.run (StillVC.makeFn ?_)
        refine CallVC.ret (containsFunc_spec zs v _ _ (fun n => decide (n < -1) || decide (-1 < n)) _ (a0.ext o42.ext) hl (fun z _ h' e => right1_spec z (-1) (-1) b34 b35 h' (e.cell (o42.cellB 0 rfl 0)) (e.cell (o42.cellB 1 rfl 0)))) ?_
        rintro _ h4 ⟨rfl, oc⟩
        refine RetVC.one rfl ?_
        refine ⟨?_, (o42.ext' oc).sel [] rfl⟩
        rw [right_eq zs (by omega) (by omega) (-1) (-1) (.inl ⟨hy, rfl, rfl⟩)]
      · refine Br.dec (fun hc => absurd hc (by omega)) (fun c60 => ?_)
        refine StillVC.run (StillVC.makeFn ?_)
        refine CallVC.ret (containsFunc_spec zs v _ _ (fun n => decide (n < 0) || decide (2147483646 < n)) _ (a0.ext o3.ext) hl (fun z _ h' e => right1_spec z 0 2147483646 b34 b35 h' (e.cell (o3.cellB 0 rfl 0)) (e.cell (o3.cellB 1 rfl 0)))) ?_
        rintro _ h4 ⟨rfl, oc⟩
        refine RetVC.one rfl ?_
        refine ⟨?_, (o3.ext' oc).sel [] rfl⟩
        rw [right_eq zs (by omega) (by omega) 0 2147483646 (.inr ⟨hy, rfl, rfl⟩)]

end Go.Proofs.YtmehgkkpabbmcaaDoor
