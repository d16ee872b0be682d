/-
  Unions of chapter 5.
-/
import Derived.Test.YtmehgkkpabbmcaaDoorStructs
import Derived.Test.YtmehgkkpabbmcaaDoorFnSet
namespace Go.Proofs.YtmehgkkpabbmcaaDoor
open Go

/- UNIONS -/
theorem clone_spec (zs : List Int) (v : Value) (h : Heap) (a0 : Arr h v (ints zs)) (hl : zs.length ≤ 1000000000) :
    SpecR Tryd.prog 26 [v] h fun r h' => Own h [row r 3 1 zs.length (ints zs)] h' := by
  refine Spec.enter Tryd.func26 rfl Tryd.ntmps26 (by kernel_rfl) ?_
  have o0 := Own.refl h
  have ln : (ints zs).length = zs.length := by simp
  obtain ⟨ad, cap, rfl, hc, hr⟩ := id a0
  cases ad with
  | none =>
    refine StillVC.run (StillVC.eqNil sl23 rfl rfl ?_)
    refine Br.tt ?_
    refine RetVC.one rfl ?_
    have : zs = [] := by
      rcases hr with hr | ⟨b, o, hb, _⟩
      · simpa using hr
      · cases hb
    subst this
    exact o0.nilRow 3 1
  | some ad =>
    refine StillVC.run (StillVC.eqNil sl23 rfl rfl ?_)
    refine Br.ff ?_
    refine RunVC.lit o0 sl23 ty3 rfl rfl (by decide) (And.intro rfl ?_)
    intro b1 m1 o1
    have o2 := o1.boxRow 0 rfl 1 0 0 rfl (Nat.le_refl _) (by decide)
    clear o1
    refine RunVC.append o2 0 rfl sl23 ty3 (by decide) (a0.ext o2.ext).toN (by simp [Value.oneCell']) (by simp [maxLen]; omega) (by simp; omega) ?_
    intro v3 m3 o3
    refine RetVC.one rfl ?_
    have o4 : Own h [row v3 3 1 zs.length (ints zs)] m3 := by simpa using o3
    exact o4

/-- The union of two sketches of one size. -/
def unionL (a b : List Int) : List Int :=
  if a.headD 0 = -1 then b else if b.headD 0 = -1 then a else a.zipWith min b

def unionR (a b : List Int) : List Int × Int := if okB a && okB b && decide (a.length = b.length) then (unionL a b, 0) else ([], 1)

theorem okB_spec {l : List Int} (h : okB l = true) : 1 ≤ l.length ∧ l.length ≤ 64 ∧ ∀ x ∈ l, -1 ≤ x ∧ x < 2147483647 ∧ (x < 0 ↔ l.headD 0 < 0) := by
  simp only [okB, Bool.and_eq_true, decide_eq_true_eq, List.all_eq_true, beq_iff_eq, decide_eq_decide] at h
  exact ⟨h.1.1, h.1.2, fun x hx => ⟨(h.2 x hx).1.1, (h.2 x hx).1.2, (h.2 x hx).2⟩⟩

theorem unionL_len {a b : List Int} (h : a.length = b.length) : (unionL a b).length = b.length := by
  unfold unionL
  split
  · rfl
  · split
    · exact h
    · simp [h]

theorem step_set {α : Type} {U a : List α} {i : Nat} {u : α} (hl : U.length = a.length) (hi : i < a.length) (hu : U[i]? = some u) : (U.take i ++ a.drop i).set i u = U.take (i + 1) ++ a.drop (i + 1) := by
  apply List.ext_getElem?
  intro j
  obtain ⟨hiU, hu'⟩ := List.getElem?_eq_some_iff.1 hu
  rw [List.getElem?_set]
  by_cases hj : i = j
  · subst hj
    rw [if_pos rfl, if_pos (by simp; omega), List.getElem?_append_left (by simp; omega), List.getElem?_take, if_pos (by omega), hu]
  · rw [if_neg hj]
    by_cases hlt : j < i
    · rw [List.getElem?_append_left (by simp; omega), List.getElem?_append_left (by simp; omega), List.getElem?_take, List.getElem?_take, if_pos hlt, if_pos (by omega)]
    · rw [List.getElem?_append_right (by simp; omega), List.getElem?_append_right (by simp; omega), List.getElem?_drop, List.getElem?_drop]
      congr 1
      simp
      omega

theorem step_keep {α : Type} {U a : List α} {i : Nat} {u : α} (hl : U.length = a.length) (hi : i < a.length) (hu : U[i]? = some u) (ha : a[i]? = some u) : U.take i ++ a.drop i = U.take (i + 1) ++ a.drop (i + 1) := by
  rw [← step_set hl hi hu]
  apply List.ext_getElem?
  intro j
  rw [List.getElem?_set]
  by_cases hj : i = j
  · subst hj
    rw [if_pos rfl, if_pos (by simp; omega), List.getElem?_append_right (by simp; omega), List.getElem?_drop, ← ha]
    congr 1
    simp
    omega
  · rw [if_neg hj]

theorem mid_get {α : Type} {U a : List α} {i : Nat} {u : α} (hl : U.length = a.length) (ha : a[i]? = some u) : (U.take i ++ a.drop i)[i]? = some u := by
  obtain ⟨hi, _⟩ := List.getElem?_eq_some_iff.1 ha
  rw [List.getElem?_append_right (by simp; omega), List.getElem?_drop, ← ha]
  congr 1
  simp
  omega

theorem unionL_get {a b : List Int} {i : Nat} {x y : Int} (hx : a[i]? = some x) (hy : b[i]? = some y) :
    (unionL a b)[i]? = some (if a.headD 0 = -1 then y else if b.headD 0 = -1 then x else min x y) := by
  unfold unionL
  split
  · exact hy
  · split
    · exact hx
    · rw [List.getElem?_zipWith, hx, hy]

set_option maxRecDepth 8192 in
theorem union_spec (a b : List Int) (va vb : Value) (h : Heap) (a0 : Arr h va (ints a)) (b0 : Arr h vb (ints b)) (ha : a.length ≤ 1000000000) (hb : b.length ≤ 1000000000) :
    SpecR Tryd.prog 14 [va, vb] h fun r h' => ∃ w, r = .tuple ⟨[w, .int .i64 (unionR a b).2]⟩ ∧ Own h [ro w (ints (unionR a b).1)] h' := by
  refine Spec.enter Tryd.func14 rfl Tryd.ntmps14 (by kernel_rfl) ?_
  have o0 := Own.refl h
  have la : (ints a).length = a.length := by simp
  have lb : (ints b).length = b.length := by simp
  refine CallVC.ret (right_spec a va _ a0 ha) ?_
  rintro _ h1 ⟨rfl, oa⟩
  cases ka : okB a with
  | false =>
    refine Br.tt ?_
    refine Br.tt ?_
    refine RetVC.two rfl ?_
    have hR : unionR a b = ([], 1) := by simp [unionR, ka]
    rw [hR]
    exact ⟨_, rfl, oa.nilRo⟩
  | true =>
    refine Br.ff ?_
    refine CallVC.ret (right_spec b vb _ (b0.ext oa.ext) hb) ?_
    rintro _ h2 ⟨rfl, ob⟩
    have o2 := oa.ext' ob
    clear oa ob o0
    cases kb : okB b with
    | false =>
      refine Br.tt ?_
      refine Br.tt ?_
      refine RetVC.two rfl ?_
      have hR : unionR a b = ([], 1) := by simp [unionR, kb]
      rw [hR]
      exact ⟨_, rfl, o2.nilRo⟩
    | true =>
      by_cases hab : a.length = b.length
      · have hR : unionR a b = (unionL a b, 0) := by simp [unionR, ka, kb, hab]
        rw [hR]
        refine Br.ff ?_
        refine StillVC.run (StillVC.lenAn (a0.ext o2.ext) (by assumption) sl23 ?_)
        refine StillVC.run (StillVC.lenAn (b0.ext o2.ext) (by assumption) sl23 ?_)
        refine Br.ndec (fun hc => absurd (by first | omega | assumption | decide) hc) (fun c42 => ?_)
        refine CallVC.ret (clone_spec a va _ (a0.ext o2.ext) ha) ?_
        intro w1 h3 oc
        have o3 := o2.call oc
        clear o2
        refine StillVC.run (StillVC.lenAn (b0.ext o3.ext) (by assumption) sl23 ?_)
        refine LoopVC.intro [7, 8, 28, 29, 30, 31, 32, 33, 34, 35, 36, 37, 38, 39, 40, 41, 42, 43, 44, 45, 46, 47, 48, 49, 50, 51, 52] [28] (fun vs hh => ∃ (i : Nat), i ≤ b.length ∧ vs = [.int .i64 i] ∧ Own h [row w1 3 1 a.length (ints ((unionL a b).take i ++ a.drop i))] hh) (fun vs _ => match vs with | [.int _ i] => b.length - i.toNat | _ => 0) ?_ ?_
        · exact ⟨0, by omega, rfl, by simpa using o3⟩
        · clear o3
          rintro vs junk h4 ⟨i, hi, rfl, o4⟩
          by_cases hlt : i < b.length
          · obtain ⟨y, hy⟩ := getx hlt
            obtain ⟨x, hx⟩ := getx (show i < a.length by omega)
            have hU := unionL_get hx hy
            have hlU : (unionL a b).length = a.length := by rw [unionL_len hab]; exact hab.symm
            have hmid := mid_get hlU hx
            have hia : i < a.length := by omega
            have hl1 : 1 ≤ a.length := by omega
            have hl2 : 1 ≤ b.length := by omega
            have keep : ∀ {hh : Heap}, Own h [row w1 3 1 a.length ((ints ((unionL a b).take i ++ a.drop i)).set i (.int .i64 y))] hh → (unionL a b)[i]? = some y → Own h [row w1 3 1 a.length (ints ((unionL a b).take (i + 1) ++ a.drop (i + 1)))] hh := by
              intro hh o e
              rwa [← List.map_set, step_set hlU hia e] at o
            refine Br.dec (fun c60 => ?_) (fun hc => absurd (by omega) hc)
            refine StillVC.run (StillVC.idx sl23 ty3 (b0.ext o4.ext) rfl (by omega) (by omega) ?_)
            refine StillVC.run (StillVC.loadM (b0.ext o4.ext) ty3 rfl (by first | assumption | rfl) ?_)
            refine CallVC.ret (empty_spec a va _ (a0.ext o4.ext) hl1) ?_
            rintro _ h5 ⟨rfl, oe⟩
            have o5 := o4.ext' oe
            by_cases hea : a.headD 0 = -1
            · refine Br.dec (fun c70 => ?_) (fun hc => absurd (by omega) hc)
              refine Br.tt ?_
              refine StillVC.run (StillVC.idx sl23 ty3 (o5.rowArr 0 rfl) rfl (by omega) (by simp; omega) ?_)
              (refine RunVC.storeR o5 0 rfl ty3 rfl rfl (by simp; omega) (And.intro ⟨rfl, rfl⟩ ?_); intro m72 o72)
              refine Ar.i64 (by omega) (by omega) ?_
              refine ⟨rfl, ?_⟩
              rw [if_pos hea] at hU
              exact ⟨⟨i + 1, by omega, rfl, keep o72 hU⟩, by simp; omega⟩
            · refine Br.dec (fun hc => absurd hc (by omega)) (fun c80 => ?_)
              refine CallVC.ret (empty_spec b vb _ (b0.ext o5.ext) hl2) ?_
              rintro _ h6 ⟨rfl, oe2⟩
              have o6 := o5.ext' oe2
              rw [if_neg hea] at hU
              by_cases heb : b.headD 0 = -1
              · refine Br.ndec (fun hc => absurd (by first | omega | assumption | decide) hc) (fun c90 => ?_)
                refine Br.ff ?_
                refine Ar.i64 (by omega) (by omega) ?_
                refine ⟨rfl, ?_⟩
                rw [if_pos heb] at hU
                rw [step_keep hlU hia hU hx] at o6
                exact ⟨⟨i + 1, by omega, rfl, o6⟩, by simp; omega⟩
              · refine Br.ndec (fun c100 => ?_) (fun hc => absurd hc (by first | omega | assumption | decide))
                refine StillVC.run (StillVC.idx sl23 ty3 (o6.rowArr 0 rfl) rfl (by omega) (by simp; omega) ?_)
                refine StillVC.run (StillVC.loadM (o6.rowArr 0 rfl) ty3 rfl (by first | assumption | rfl) ?_)
                refine Br.dec (fun c103 => ?_) (fun c103 => ?_)
                refine StillVC.run (StillVC.idx sl23 ty3 (o6.rowArr 0 rfl) rfl (by omega) (by simp; omega) ?_)
                (refine RunVC.storeR o6 0 rfl ty3 rfl rfl (by simp; omega) (And.intro ⟨rfl, rfl⟩ ?_); intro m105 o105)
                refine Ar.i64 (by omega) (by omega) ?_
                refine ⟨rfl, ?_⟩
                rotate_left
                refine Ar.i64 (by omega) (by omega) ?_
                refine ⟨rfl, ?_⟩
                · rw [if_neg heb, Int.min_eq_left (by omega)] at hU
                  rw [step_keep hlU hia hU hx] at o6
                  exact ⟨⟨i + 1, by omega, rfl, o6⟩, by simp; omega⟩
                · rw [if_neg heb, Int.min_eq_right (by omega)] at hU
                  exact ⟨⟨i + 1, by omega, rfl, keep o105 hU⟩, by simp; omega⟩
          · refine Br.dec (fun hc => absurd hc (by omega)) (fun c70 => ?_)
            refine RetVC.two rfl ?_
            obtain rfl : i = b.length := by omega
            rw [List.take_of_length_le (by rw [unionL_len hab]; omega), List.drop_of_length_le (by omega), List.append_nil] at o4
            exact ⟨_, rfl, o4.rowRo 0 rfl⟩
      · refine Br.ff ?_
        refine StillVC.run (StillVC.lenAn (a0.ext o2.ext) (by assumption) sl23 ?_)
        refine StillVC.run (StillVC.lenAn (b0.ext o2.ext) (by assumption) sl23 ?_)
        refine Br.ndec (fun c62 => ?_) (fun hc => absurd hc (by first | omega | assumption | decide))
        refine RetVC.two rfl ?_
        have hR : unionR a b = ([], 1) := by simp [unionR, hab]
        rw [hR]
        exact ⟨_, rfl, o2.nilRo⟩

end Go.Proofs.YtmehgkkpabbmcaaDoor
