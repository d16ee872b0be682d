/-
  The reference's sketches and unions of chapter 5, and the comparisons of lists.
-/
import Derived.Test.YtmehgkkpabbmcaaDoorStructs
import Derived.Test.YtmehgkkpabbmcaaDoorFnUnion
namespace Go.Proofs.YtmehgkkpabbmcaaDoor
open Go

theorem okB_false {l : List Int} (x : Int) (hx : x ∈ l) (h : x < -1 ∨ 2147483647 ≤ x ∨ ¬ (x < 0 ↔ l.headD 0 < 0)) : okB l = false := by
  cases hk : okB l with
  | false => rfl
  | true =>
    have := (okB_spec hk).2.2 x hx
    omega

theorem okB_true {l : List Int} (h1 : 1 ≤ l.length) (h64 : l.length ≤ 64) (h : ∀ x ∈ l, -1 ≤ x ∧ x < 2147483647 ∧ (x < 0 ↔ l.headD 0 < 0)) : okB l = true := by
  simp only [okB, Bool.and_eq_true, decide_eq_true_eq, List.all_eq_true, beq_iff_eq, decide_eq_decide]
  exact ⟨⟨h1, h64⟩, fun x hx => ⟨⟨(h x hx).1, (h x hx).2.1⟩, (h x hx).2.2⟩⟩

theorem headD_get {l : List Int} (h1 : 1 ≤ l.length) : l[0]? = some (l.headD 0) := by
  cases l with
  | nil => simp at h1
  | cons y ys => rfl

set_option maxRecDepth 100000 in
theorem refValid_spec (zs : List Int) (v : Value) (h : Heap) (a0 : Arr h v (ints zs)) (hl : zs.length ≤ 1000000000) :
    SpecR Tryd.prog 28 [v] h fun r h' => r = .bool (okB zs) ∧ Own h [] h' := by
  refine Spec.enter Tryd.func28 rfl Tryd.ntmps28 (by kernel_rfl) ?_
  have o0 := Own.refl h
  have ln : (ints zs).length = zs.length := by simp
  by_cases h0 : zs.length < 1
  · refine StillVC.run (StillVC.lenAn a0 (by assumption) sl23 ?_)
    refine Br.dec (fun c11 => ?_) (fun hc => absurd (by omega) hc)
    refine Br.tt ?_
    refine RetVC.one rfl ?_
    exact ⟨by simp [okB]; omega, o0⟩
  · by_cases h64 : 64 < zs.length
    · refine StillVC.run (StillVC.lenAn a0 (by assumption) sl23 ?_)
      refine Br.dec (fun hc => absurd hc (by omega)) (fun c21 => ?_)
      refine StillVC.run (StillVC.lenAn a0 (by assumption) sl23 ?_)
      refine Br.dec (fun c23 => ?_) (fun hc => absurd (by omega) hc)
      refine RetVC.one rfl ?_
      exact ⟨by simp [okB]; omega, o0⟩
    · have hhd := headD_get (l := zs) (by omega)
      refine StillVC.run (StillVC.lenAn a0 (by assumption) sl23 ?_)
      refine Br.dec (fun hc => absurd hc (by omega)) (fun c31 => ?_)
      refine StillVC.run (StillVC.lenAn a0 (by assumption) sl23 ?_)
      refine Br.dec (fun hc => absurd hc (by omega)) (fun c33 => ?_)
      refine LoopVC.intro [2, 3, 12, 13, 14, 15, 16, 17, 18, 19, 20, 21, 22, 23, 24, 25, 26, 27, 28, 29, 30, 31, 32, 33, 34, 35, 36, 37, 38, 39, 40, 41] [3] (fun vs hh => hh = h ∧ ∃ (i : Nat), i ≤ zs.length ∧ vs = [.int .i64 i] ∧ ∀ j, j < i → ∀ y, zs[j]? = some y → -1 ≤ y ∧ y < 2147483647 ∧ (y < 0 ↔ zs.headD 0 < 0)) (fun vs _ => match vs with | [.int _ i] => zs.length - i.toNat | _ => 0) ?_ ?_
      · exact ⟨rfl, 0, by omega, rfl, by simp⟩
      · rintro vs junk h2 ⟨rfl, i, hi, rfl, hb⟩
        by_cases hlt : i < zs.length
        · obtain ⟨z, hz⟩ := getx hlt
          have hm := List.mem_of_getElem? hz
          refine StillVC.run (StillVC.lenAn a0 (by assumption) sl23 ?_)
          refine Br.dec (fun c41 => ?_) (fun hc => absurd (by omega) hc)
          refine DrawVC.intro [0, 1, 2, 4, 5, 6, 7, 8, 10, 11, 12, 13, 14, 15, 17, 18, 19, 21, 22, 23] [3, 9, 16, 20] [] [0, 1, 2, 3, 4, 5, 6, 7, 8, 9, 10, 11, 12, 13, 14, 15, 16, 17, 18, 19, 20, 21, 22, 23] mixed (by kernel_rfl) rfl (fun _ _ _ _ h => h) ?_
          refine StillVC.idx sl23 ty3 a0 rfl (by omega) (by omega) ?_
          refine StillVC.loadM a0 ty3 rfl (by first | assumption | rfl) ?_
          refine Br.dec (fun c44 => ?_) (fun c44 => ?_)
          refine Br.tt ?_
          refine RetVC.one rfl ?_
          rotate_left
          refine StillVC.idx sl23 ty3 a0 rfl (by omega) (by omega) ?_
          refine StillVC.loadM a0 ty3 rfl (by first | assumption | rfl) ?_
          refine Br.dec (fun c47 => ?_) (fun c47 => ?_)
          refine Br.tt ?_
          refine RetVC.one rfl ?_
          rotate_left
          refine StillVC.idx sl23 ty3 a0 rfl (by omega) (by omega) ?_
          refine StillVC.loadM a0 ty3 rfl (by first | assumption | rfl) ?_
          refine StillVC.idx sl23 ty3 a0 rfl (by omega) (by omega) ?_
          refine StillVC.loadM a0 ty3 rfl (by first | assumption | rfl) ?_
          refine StillVC.neB bool4 rfl rfl ?_
          refine Br.ndec (fun c53 => ?_) (fun c53 => ?_)
          refine RetVC.one rfl ?_
          rotate_left
          refine Ar.i64 (by omega) (by omega) ?_
          refine ⟨rfl, ?_⟩
          · rw [decide_eq_decide] at c53
            refine ⟨⟨rfl, i + 1, by omega, rfl, fun j hj y hy => ?_⟩, by simp; omega⟩
            by_cases hji : j = i
            · subst hji
              rw [hz] at hy
              injection hy with hy
              subst hy
              exact ⟨by omega, by omega, c53⟩
            · exact hb j (by omega) y hy
          · exact ⟨by rw [okB_false z hm (by omega)], o0⟩
          · exact ⟨by rw [okB_false z hm (by omega)], o0⟩
          · rw [decide_eq_decide] at c53
            exact ⟨by rw [okB_false z hm (.inr (.inr c53))], o0⟩
        · refine StillVC.run (StillVC.lenAn a0 (by assumption) sl23 ?_)
          refine Br.dec (fun hc => absurd hc (by omega)) (fun c51 => ?_)
          refine RetVC.one rfl ?_
          refine ⟨?_, o0⟩
          rw [okB_true (by omega) (by omega) (fun x hx => ?_)]
          obtain ⟨j, hj, he⟩ := List.mem_iff_getElem.1 hx
          exact hb j (by omega) x (by simp [hj, he])

/- COMPARISONS -/
theorem ne_at {α : Type} {a b : List α} {i : Nat} {x y : α} (hx : a[i]? = some x) (hy : b[i]? = some y) (h : ¬ x = y) : a ≠ b := by
  rintro rfl
  rw [hx] at hy
  injection hy with hy
  exact h hy

set_option maxRecDepth 100000 in
theorem refInts_spec (a b : List Int) (va vb : Value) (h : Heap) (a0 : Arr h va (ints a)) (b0 : Arr h vb (ints b)) (ha : a.length ≤ 1000000000) :
    SpecR Tryd.prog 22 [va, vb] h fun r h' => r = .bool (decide (a = b)) ∧ Own h [] h' := by
  refine Spec.enter Tryd.func22 rfl Tryd.ntmps22 (by kernel_rfl) ?_
  have o0 := Own.refl h
  have la : (ints a).length = a.length := by simp
  have lb : (ints b).length = b.length := by simp
  by_cases hl : a.length = b.length
  · refine StillVC.run (StillVC.lenAn a0 (by assumption) sl23 ?_)
    refine StillVC.run (StillVC.lenAn b0 (by assumption) sl23 ?_)
    refine Br.ndec (fun hc => absurd (by first | omega | assumption | decide) hc) (fun c12 => ?_)
    refine LoopVC.intro [4, 5, 11, 12, 13, 14, 15, 16, 17, 18, 19, 20, 21, 22, 23, 24, 25] [5] (fun vs hh => hh = h ∧ ∃ (i : Nat), i ≤ a.length ∧ vs = [.int .i64 i] ∧ ∀ j, j < i → a[j]? = b[j]?) (fun vs _ => match vs with | [.int _ i] => a.length - i.toNat | _ => 0) ?_ ?_
    · exact ⟨rfl, 0, by omega, rfl, by simp⟩
    · rintro vs junk h2 ⟨rfl, i, hi, rfl, hb⟩
      by_cases hlt : i < a.length
      · obtain ⟨x, hx⟩ := getx hlt
        obtain ⟨y, hy⟩ := getx (show i < b.length by omega)
        refine StillVC.run (StillVC.lenAn a0 (by assumption) sl23 ?_)
        refine Br.dec (fun c41 => ?_) (fun hc => absurd (by omega) hc)
        refine DrawVC.intro [0, 1, 2, 4, 5, 6, 8] [3, 7] [] [0, 1, 2, 3, 4, 5, 6, 7, 8] mixed (by kernel_rfl) rfl (fun _ _ _ _ h => h) ?_
        refine StillVC.idx sl23 ty3 a0 rfl (by omega) (by omega) ?_
        refine StillVC.loadM a0 ty3 rfl (by first | assumption | rfl) ?_
        refine StillVC.idx sl23 ty3 b0 rfl (by omega) (by omega) ?_
        refine StillVC.loadM b0 ty3 rfl (by first | assumption | rfl) ?_
        refine Br.ndec (fun c46 => ?_) (fun c46 => ?_)
        refine RetVC.one rfl ?_
        rotate_left
        refine Ar.i64 (by omega) (by omega) ?_
        refine ⟨rfl, ?_⟩
        · have e : x = y := by assumption
          refine ⟨⟨rfl, i + 1, by omega, rfl, fun j hj => ?_⟩, by simp; omega⟩
          by_cases hji : j = i
          · subst hji
            rw [hx, hy, e]
          · exact hb j (by omega)
        · have e : a ≠ b := ne_at hx hy (by assumption)
          exact ⟨by simp [e], o0⟩
      · refine StillVC.run (StillVC.lenAn a0 (by assumption) sl23 ?_)
        refine Br.dec (fun hc => absurd hc (by omega)) (fun c51 => ?_)
        refine RetVC.one rfl ?_
        refine ⟨?_, o0⟩
        have : a = b := by
          apply List.ext_getElem?
          intro j
          by_cases hj : j < i
          · exact hb j hj
          · rw [List.getElem?_eq_none (by omega), List.getElem?_eq_none (by omega)]
        simp [this]
  · refine StillVC.run (StillVC.lenAn a0 (by assumption) sl23 ?_)
    refine StillVC.run (StillVC.lenAn b0 (by assumption) sl23 ?_)
    refine Br.ndec (fun c22 => ?_) (fun hc => absurd hc (by first | omega | assumption | decide))
    refine RetVC.one rfl ?_
    have : a ≠ b := fun e => hl (by rw [e])
    exact ⟨by simp [this], o0⟩

set_option maxRecDepth 100000 in
theorem refStrings_spec (a b : List (List UInt8)) (va vb : Value) (h : Heap) (a0 : Arr h va (strs a)) (b0 : Arr h vb (strs b)) (ha : a.length ≤ 1000000000) :
    SpecR Tryd.prog 23 [va, vb] h fun r h' => r = .bool (decide (a = b)) ∧ Own h [] h' := by
  refine Spec.enter Tryd.func23 rfl Tryd.ntmps23 (by kernel_rfl) ?_
  have o0 := Own.refl h
  have la : (strs a).length = a.length := by simp
  have lb : (strs b).length = b.length := by simp
  by_cases hl : a.length = b.length
  · refine StillVC.run (StillVC.lenAn a0 (by assumption) sl22 ?_)
    refine StillVC.run (StillVC.lenAn b0 (by assumption) sl22 ?_)
    refine Br.ndec (fun hc => absurd (by first | omega | assumption | decide) hc) (fun c12 => ?_)
    refine LoopVC.intro [4, 5, 11, 12, 13, 14, 15, 16, 17, 18, 19, 20, 21, 22, 23, 24, 25] [5] (fun vs hh => hh = h ∧ ∃ (i : Nat), i ≤ a.length ∧ vs = [.int .i64 i] ∧ ∀ j, j < i → a[j]? = b[j]?) (fun vs _ => match vs with | [.int _ i] => a.length - i.toNat | _ => 0) ?_ ?_
    · exact ⟨rfl, 0, by omega, rfl, by simp⟩
    · rintro vs junk h2 ⟨rfl, i, hi, rfl, hb⟩
      by_cases hlt : i < a.length
      · obtain ⟨x, hx⟩ := getx hlt
        obtain ⟨y, hy⟩ := getx (show i < b.length by omega)
        refine StillVC.run (StillVC.lenAn a0 (by assumption) sl22 ?_)
        refine Br.dec (fun c41 => ?_) (fun hc => absurd (by omega) hc)
        refine DrawVC.intro [0, 1, 2, 4, 5, 6, 8] [3, 7] [] [0, 1, 2, 3, 4, 5, 6, 7, 8] mixed (by kernel_rfl) rfl (fun _ _ _ _ h => h) ?_
        refine StillVC.idx sl22 ty9 a0 rfl (by omega) (by omega) ?_
        refine StillVC.loadM a0 ty9 rfl (by first | assumption | rfl) ?_
        refine StillVC.idx sl22 ty9 b0 rfl (by omega) (by omega) ?_
        refine StillVC.loadM b0 ty9 rfl (by first | assumption | rfl) ?_
        refine Br.ndec (fun c46 => ?_) (fun c46 => ?_)
        refine RetVC.one rfl ?_
        rotate_left
        refine Ar.i64 (by omega) (by omega) ?_
        refine ⟨rfl, ?_⟩
        · have e : x = y := by assumption
          refine ⟨⟨rfl, i + 1, by omega, rfl, fun j hj => ?_⟩, by simp; omega⟩
          by_cases hji : j = i
          · subst hji
            rw [hx, hy, e]
          · exact hb j (by omega)
        · have e : a ≠ b := ne_at hx hy (by assumption)
          exact ⟨by simp [e], o0⟩
      · refine StillVC.run (StillVC.lenAn a0 (by assumption) sl22 ?_)
        refine Br.dec (fun hc => absurd hc (by omega)) (fun c51 => ?_)
        refine RetVC.one rfl ?_
        refine ⟨?_, o0⟩
        have : a = b := by
          apply List.ext_getElem?
          intro j
          by_cases hj : j < i
          · exact hb j hj
          · rw [List.getElem?_eq_none (by omega), List.getElem?_eq_none (by omega)]
        simp [this]
  · refine StillVC.run (StillVC.lenAn a0 (by assumption) sl22 ?_)
    refine StillVC.run (StillVC.lenAn b0 (by assumption) sl22 ?_)
    refine Br.ndec (fun c22 => ?_) (fun hc => absurd hc (by first | omega | assumption | decide))
    refine RetVC.one rfl ?_
    have : a ≠ b := fun e => hl (by rw [e])
    exact ⟨by simp [this], o0⟩

def fewB (ss : List (List UInt8)) : Bool := decide (ss.length ≤ 40) && ss.all fun s => decide (s.length ≤ 100)

set_option maxRecDepth 100000 in
theorem few_spec (ss : List (List UInt8)) (v : Value) (h : Heap) (a0 : Arr h v (strs ss)) (hl : ss.length ≤ 140737488351232) :
    SpecR Tryd.prog 11 [v] h fun r h' => r = .bool (fewB ss) ∧ Own h [] h' := by
  refine Spec.enter Tryd.func11 rfl Tryd.ntmps11 (by kernel_rfl) ?_
  have o0 := Own.refl h
  have ln : (strs ss).length = ss.length := by simp
  by_cases h40 : 40 < ss.length
  · refine StillVC.run (StillVC.lenAn a0 (by assumption) sl22 ?_)
    refine Br.dec (fun c11 => ?_) (fun hc => absurd (by omega) hc)
    refine RetVC.one rfl ?_
    refine ⟨?_, o0⟩
    have : decide (ss.length ≤ 40) = false := decide_eq_false (by omega)
    simp [fewB, this]
  · refine StillVC.run (StillVC.lenAn a0 (by assumption) sl22 ?_)
    refine Br.dec (fun hc => absurd hc (by omega)) (fun c21 => ?_)
    refine LoopVC.intro [2, 3, 7, 8, 9, 10, 11, 12, 13, 14, 15, 16, 17, 18] [3] (fun vs hh => hh = h ∧ ∃ (i : Nat), i ≤ ss.length ∧ vs = [.int .i64 i] ∧ ∀ j, j < i → ∀ s, ss[j]? = some s → s.length ≤ 100) (fun vs _ => match vs with | [.int _ i] => ss.length - i.toNat | _ => 0) ?_ ?_
    · exact ⟨rfl, 0, by omega, rfl, by simp⟩
    · rintro vs junk h2 ⟨rfl, i, hi, rfl, hb⟩
      by_cases hlt : i < ss.length
      · obtain ⟨z, hz⟩ := getx hlt
        have hm := List.mem_of_getElem? hz
        refine StillVC.run (StillVC.lenAn a0 (by assumption) sl22 ?_)
        refine Br.dec (fun c41 => ?_) (fun hc => absurd (by omega) hc)
        refine StillVC.run (StillVC.idx sl22 ty9 a0 rfl (by omega) (by omega) ?_)
        refine StillVC.run (StillVC.loadM a0 ty9 rfl (by first | assumption | rfl) ?_)
        refine StillVC.run (StillVC.lenS rfl str9 ?_)
        refine Br.dec (fun c45 => ?_) (fun c45 => ?_)
        refine RetVC.one rfl ?_
        rotate_left
        refine Ar.i64 (by omega) (by omega) ?_
        refine ⟨rfl, ?_⟩
        · refine ⟨⟨rfl, i + 1, by omega, rfl, fun j hj s hs => ?_⟩, by simp; omega⟩
          by_cases hji : j = i
          · subst hji
            rw [hz] at hs
            injection hs with hs
            subst hs
            omega
          · exact hb j (by omega) s hs
        · refine ⟨?_, o0⟩
          have : fewB ss = false := by
            cases hk : fewB ss with
            | false => rfl
            | true =>
              simp only [fewB, Bool.and_eq_true, List.all_eq_true, decide_eq_true_eq] at hk
              have := hk.2 z hm
              omega
          rw [this]
      · refine StillVC.run (StillVC.lenAn a0 (by assumption) sl22 ?_)
        refine Br.dec (fun hc => absurd hc (by omega)) (fun c51 => ?_)
        refine RetVC.one rfl ?_
        refine ⟨?_, o0⟩
        have : fewB ss = true := by
          simp only [fewB, Bool.and_eq_true, List.all_eq_true, decide_eq_true_eq]
          refine ⟨by omega, fun x hx => ?_⟩
          obtain ⟨j, hj, he⟩ := List.mem_iff_getElem.1 hx
          exact hb j (by omega) x (by simp [hj, he])
        rw [this]

end Go.Proofs.YtmehgkkpabbmcaaDoor
