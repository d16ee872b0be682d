/-
  Rows of values: the two comparisons of rows, and texts that are short.
-/
import Derived.Test.YtffpaippmfafjaaGreatDoorStructs
import Derived.Test.YtffpaippmfafjaaGreatDoorFnCmp
namespace Go.Proofs.YtffpaippmfafjaaGreatDoor
open Go

structure Vl where
  k : Int
  n : Int
  t : List UInt8

def vlC (x : Vl) : List Value := [.int .i64 x.k, .int .i64 x.n, .string ⟨⟨x.t⟩⟩]
def vlV (x : Vl) : Value := .agg ⟨[.int .i64 x.k, .int .i64 x.n, .string ⟨⟨x.t⟩⟩]⟩
def shortP (l : List Vl) : Prop := ∀ x ∈ l, x.t.length ≤ 500
instance (l : List Vl) : Decidable (shortP l) := inferInstanceAs (Decidable (∀ x ∈ l, x.t.length ≤ 500))

def cmpW (a b : Vl) : Int := cmpV a.k a.n a.t b.k b.n b.t

theorem cmpW_zero (a b : Vl) : cmpW a b = 0 ↔ a = b := by
  unfold cmpW
  rw [cmpV_zero]
  obtain ⟨a1, a2, a3⟩ := a
  obtain ⟨b1, b2, b3⟩ := b
  simp

def cmpRow : List Vl → List Vl → Int
  | [], [] => 0
  | [], _ :: _ => -1
  | _ :: _, [] => 1
  | a :: r, b :: s => if cmpW a b ≠ 0 then cmpW a b else cmpRow r s

theorem cmpW_rng (a b : Vl) : -1 ≤ cmpW a b ∧ cmpW a b ≤ 1 := cmpV_rng _ _ _ _ _ _

theorem cmpRow_rng : ∀ (a b : List Vl), -1 ≤ cmpRow a b ∧ cmpRow a b ≤ 1
  | [], [] => by decide
  | [], _ :: _ => by simp [cmpRow]
  | _ :: _, [] => by simp [cmpRow]
  | a :: r, b :: s => by
    have h1 := cmpW_rng a b
    have h2 := cmpRow_rng r s
    unfold cmpRow
    split <;> omega

theorem cmpRow_neg : ∀ (a b : List Vl), cmpRow b a = -cmpRow a b
  | [], [] => rfl
  | [], _ :: _ => rfl
  | _ :: _, [] => rfl
  | a :: r, b :: s => by
    have h1 : cmpW b a = -cmpW a b := cmpV_neg _ _ _ _ _ _
    have h2 := cmpRow_neg r s
    unfold cmpRow
    rw [h1]
    by_cases h : cmpW a b = 0
    · rw [if_neg (by omega), if_neg (by omega)]; exact h2
    · rw [if_pos (by omega), if_pos (by omega)]

theorem cmpRow_zero : ∀ (a b : List Vl), cmpRow a b = 0 ↔ a = b
  | [], [] => by simp [cmpRow]
  | [], _ :: _ => by simp [cmpRow]
  | _ :: _, [] => by simp [cmpRow]
  | a :: r, b :: s => by
    have h1 := cmpW_zero a b
    have h2 := cmpRow_zero r s
    unfold cmpRow
    by_cases h : cmpW a b = 0
    · rw [if_neg (by omega), h2, List.cons.injEq]
      exact ⟨fun e => ⟨h1.1 h, e⟩, fun e => e.2⟩
    · rw [if_pos h, List.cons.injEq]
      exact ⟨fun e => absurd e h, fun e => absurd (h1.2 e.1) h⟩

theorem cmpRow_trans : ∀ (a b c : List Vl), cmpRow a b ≤ 0 → cmpRow b c ≤ 0 → cmpRow a c ≤ 0
  | [], _, [], _, _ => by decide
  | [], _, _ :: _, _, _ => by simp [cmpRow]
  | _ :: _, [], _, h, _ => absurd h (by simp [cmpRow])
  | _ :: _, _ :: _, [], _, h => absurd h (by simp [cmpRow])
  | a :: r, b :: s, c :: q, h1, h2 => by
    have ih := cmpRow_trans r s q
    have ht : cmpW a b ≤ 0 → cmpW b c ≤ 0 → cmpW a c ≤ 0 := cmpV_trans _ _ _ _ _ _ _ _ _
    have hn : cmpW c b = -cmpW b c := cmpV_neg _ _ _ _ _ _
    unfold cmpRow at h1 h2 ⊢
    by_cases hx : cmpW a b = 0
    · obtain rfl := (cmpW_zero _ _).1 hx
      rw [if_neg (by omega)] at h1
      by_cases hy : cmpW a c = 0
      · rw [if_neg (by omega)] at h2 ⊢
        exact ih h1 h2
      · rw [if_pos hy] at h2 ⊢
        exact h2
    · rw [if_pos hx] at h1
      by_cases hy : cmpW b c = 0
      · obtain rfl := (cmpW_zero _ _).1 hy
        rw [if_pos hx]
        exact h1
      · rw [if_pos hy] at h2
        by_cases hz : cmpW a c = 0
        · obtain rfl := (cmpW_zero _ _).1 hz
          omega
        · rw [if_pos hz]
          exact ht h1 h2

theorem cmpRow_step {a b : List Vl} {i : Nat} {x y : Vl} (ha : a[i]? = some x) (hb : b[i]? = some y) : cmpRow (a.drop i) (b.drop i) = if cmpW x y ≠ 0 then cmpW x y else cmpRow (a.drop (i + 1)) (b.drop (i + 1)) := by
  obtain ⟨hi, rfl⟩ := List.getElem?_eq_some_iff.1 ha
  obtain ⟨hj, rfl⟩ := List.getElem?_eq_some_iff.1 hb
  rw [List.drop_eq_getElem_cons hi, List.drop_eq_getElem_cons hj, cmpRow]

theorem cmpRow_end {a b : List Vl} {i : Nat} (h1 : i ≤ a.length) (h2 : i ≤ b.length) (h : a.length ≤ i ∨ b.length ≤ i) : cmpRow (a.drop i) (b.drop i) = cmpI a.length b.length := by
  have hc := cmpI_cases a.length b.length
  by_cases ha : a.length ≤ i
  · rw [List.drop_of_length_le ha]
    by_cases hb : b.length ≤ i
    · rw [List.drop_of_length_le hb, cmpRow]; omega
    · cases hd : b.drop i with
      | nil => have := List.drop_eq_nil_iff.1 hd; omega
      | cons y s => rw [cmpRow]; omega
  · rw [List.drop_of_length_le (by omega : b.length ≤ i)]
    cases hd : a.drop i with
    | nil => have := List.drop_eq_nil_iff.1 hd; omega
    | cons y s => rw [cmpRow]; omega

set_option maxHeartbeats 4000000 in
set_option maxRecDepth 100000 in
theorem short_spec (l : List Vl) (v : Value) (h : Heap) (hA : ArrN 3 h v l.length (l.flatMap vlC)) (hl : l.length ≤ 1000000000) :
    SpecR Tryz.prog 12 [v] h fun r h' => r = .bool (decide (shortP l)) ∧ Own h [] h' := by
  refine Spec.enter Tryz.func12 rfl Tryz.ntmps12 (by kernel_rfl) ?_
  have o0 := Own.refl h
  refine LoopVC.intro [2, 3, 4, 5, 6, 7, 8, 9, 10, 11, 12, 13, 14, 15, 16] [3] (fun vs hh => ∃ (i : Nat), i ≤ l.length ∧ vs = [.int .i64 i] ∧ shortP (l.take i) ∧ Own h [] hh) (fun vs _ => match vs with | [.int _ i] => l.length - i.toNat | _ => 0) ?_ ?_
  · exact ⟨0, by omega, rfl, fun x hx => by simp at hx, o0⟩
  · rintro vs junk hh ⟨i, hi, rfl, hE, oh⟩
    by_cases hlt : i < l.length
    · obtain ⟨x, hx⟩ := getx hlt
      by_cases hxl : 500 < x.t.length
      · refine StillVC.run (StillVC.lenN (hA.ext oh.ext) sl42 ?_)
        refine Br.dec (fun c21 => ?_) (fun hc => absurd (by omega) hc)
        refine StillVC.run (StillVC.idxN sl42 ty23 (hA.ext oh.ext) rfl (by omega) (by omega) ?_)
        refine StillVC.run (StillVC.fieldAdr (hA.ext oh.ext) (by omega) st23 rfl rfl rfl ?_)
        refine StillVC.run (StillVC.loadFF (hA.ext oh.ext) ty9 (fun _ => rfl) rfl (by assumption) rfl ?_)
        refine StillVC.run (StillVC.lenS rfl str9 ?_)
        refine Br.dec (fun c26 => ?_) (fun hc => absurd (by omega) hc)
        refine RetVC.one rfl ?_
        refine ⟨congrArg Value.bool (decide_eq_false fun e => ?_).symm, oh⟩
        have := e x (List.mem_of_getElem? hx)
        omega
      · refine StillVC.run (StillVC.lenN (hA.ext oh.ext) sl42 ?_)
        refine Br.dec (fun c31 => ?_) (fun hc => absurd (by omega) hc)
        refine StillVC.run (StillVC.idxN sl42 ty23 (hA.ext oh.ext) rfl (by omega) (by omega) ?_)
        refine StillVC.run (StillVC.fieldAdr (hA.ext oh.ext) (by omega) st23 rfl rfl rfl ?_)
        refine StillVC.run (StillVC.loadFF (hA.ext oh.ext) ty9 (fun _ => rfl) rfl (by assumption) rfl ?_)
        refine StillVC.run (StillVC.lenS rfl str9 ?_)
        refine Br.dec (fun hc => absurd hc (by omega)) (fun c36 => ?_)
        refine Ar.i64 (by omega) (by omega) ?_
        refine ⟨rfl, ?_⟩
        refine ⟨⟨i + 1, by omega, rfl, fun y hy => ?_, oh⟩, by simp; omega⟩
        rw [List.take_add_one, hx] at hy
        rcases List.mem_append.1 hy with hy | hy
        · exact hE y hy
        · simp at hy; subst hy; omega
    · have e1 : l.take i = l := List.take_of_length_le (by omega)
      rw [e1] at hE
      refine StillVC.run (StillVC.lenN (hA.ext oh.ext) sl42 ?_)
      refine Br.dec (fun hc => absurd hc (by omega)) (fun c81 => ?_)
      refine RetVC.one rfl ?_
      exact ⟨by rw [decide_eq_true hE], oh⟩

set_option maxHeartbeats 4000000 in
set_option maxRecDepth 100000 in
theorem compareRows_spec (a b : List Vl) (va vb : Value) (h : Heap) (hA : ArrN 3 h va a.length (a.flatMap vlC)) (hB : ArrN 3 h vb b.length (b.flatMap vlC)) (hla : a.length ≤ 1000000000) (hlb : b.length ≤ 1000000000) :
    SpecR Tryz.prog 26 [va, vb] h fun r h' => r = .int .i64 (cmpRow a b) ∧ Own h [] h' := by
  refine Spec.enter Tryz.func26 rfl Tryz.ntmps26 (by kernel_rfl) ?_
  have o0 := Own.refl h
  refine StillVC.run (StillVC.lenN hA sl42 ?_)
  refine StillVC.run (StillVC.lenN hB sl42 ?_)
  refine StillVC.run (StillVC.min2 rfl rfl ?_)
  refine LoopVC.intro [4, 5, 6, 12, 13, 14, 15, 16, 17, 18, 19, 20, 21, 22, 23, 24, 25, 26, 27] [12] (fun vs hh => ∃ (i : Nat), i ≤ a.length ∧ i ≤ b.length ∧ vs = [.int .i64 i] ∧ cmpRow (a.drop i) (b.drop i) = cmpRow a b ∧ Own h [] hh) (fun vs _ => match vs with | [.int _ i] => a.length - i.toNat | _ => 0) ?_ ?_
  · exact ⟨0, by omega, by omega, rfl, rfl, o0⟩
  · rintro vs junk hh ⟨i, hi, hj, rfl, hE, oh⟩
    by_cases hlt : i < a.length ∧ i < b.length
    · obtain ⟨x, hx⟩ := getx hlt.1
      obtain ⟨y, hy⟩ := getx hlt.2
      rw [cmpRow_step hx hy] at hE
      refine Br.dec (fun c20 => ?_) (fun hc => absurd (by omega) hc)
      refine DrawVC.intro [0, 1, 2, 4, 5, 6, 9] [3, 7] [8] [0, 1, 2, 3, 4, 5, 6, 7, 8, 9] mixed (by kernel_rfl) rfl (fun _ _ _ _ h => h) ?_
      refine StillVC.idxN sl42 ty23 (hA.ext oh.ext) rfl (by omega) (by omega) ?_
      refine StillVC.loadFT ty23 (hA.ext oh.ext) (fun _ => rfl) (by decide) rfl (by assumption) ?_
      refine StillVC.idxN sl42 ty23 (hB.ext oh.ext) rfl (by omega) (by omega) ?_
      refine StillVC.loadFT ty23 (hB.ext oh.ext) (fun _ => rfl) (by decide) rfl (by assumption) ?_
      refine CallVC.ret (compare_spec x.k x.n x.t y.k y.n y.t _) ?_
      rintro _ h1 ⟨rfl, oc⟩
      have o1 := oc.thenE (by assumption)
      by_cases hc : cmpW x y = 0
      · rw [if_neg (by omega)] at hE
        unfold cmpW at hc
        rw [hc]
        refine Br.ff ?_
        refine Ar.i64 (by omega) (by omega) ?_
        refine ⟨rfl, ?_⟩
        exact ⟨⟨i + 1, by omega, by omega, rfl, hE, o1⟩, by simp; omega⟩
      · rw [if_pos hc] at hE
        unfold cmpW at hc hE
        refine Br.ndec (fun c50 => ?_) (fun hc => absurd hc (by first | omega | assumption | decide | exact rfl))
        refine RetVC.one rfl ?_
        exact ⟨by rw [← hE], o1⟩
    · rw [cmpRow_end hi hj (by omega)] at hE
      refine Br.dec (fun hc => absurd hc (by omega)) (fun c60 => ?_)
      refine StillVC.run (StillVC.lenN (hA.ext oh.ext) sl42 ?_)
      refine StillVC.run (StillVC.lenN (hB.ext oh.ext) sl42 ?_)
      refine CallVC.ret (orderI_spec a.length b.length _) ?_
      rintro _ h1 ⟨rfl, oc⟩
      have o1 := oc.thenE (by assumption)
      refine RetVC.one rfl ?_
      exact ⟨by rw [← hE], o1⟩

set_option maxHeartbeats 4000000 in
set_option maxRecDepth 100000 in
theorem rcompareRows_spec (a b : List Vl) (va vb : Value) (h : Heap) (hA : ArrN 3 h va a.length (a.flatMap vlC)) (hB : ArrN 3 h vb b.length (b.flatMap vlC)) (hla : a.length ≤ 1000000000) (hlb : b.length ≤ 1000000000) :
    SpecR Tryz.prog 27 [va, vb] h fun r h' => r = .int .i64 (cmpRow a b) ∧ Own h [] h' := by
  refine Spec.enter Tryz.func27 rfl Tryz.ntmps27 (by kernel_rfl) ?_
  have o0 := Own.refl h
  refine LoopVC.intro [4, 5, 6, 7, 8, 9, 10, 11, 12, 13, 14, 15, 16, 17, 18, 19, 20, 21, 22, 23, 24, 25, 26, 27, 28, 29, 30] [5] (fun vs hh => ∃ (i : Nat), i ≤ a.length ∧ i ≤ b.length ∧ vs = [.int .i64 i] ∧ cmpRow (a.drop i) (b.drop i) = cmpRow a b ∧ Own h [] hh) (fun vs _ => match vs with | [.int _ i] => a.length - i.toNat | _ => 0) ?_ ?_
  · exact ⟨0, by omega, by omega, rfl, rfl, o0⟩
  · rintro vs junk hh ⟨i, hi, hj, rfl, hE, oh⟩
    by_cases hlt : i < a.length ∧ i < b.length
    · obtain ⟨x, hx⟩ := getx hlt.1
      obtain ⟨y, hy⟩ := getx hlt.2
      rw [cmpRow_step hx hy] at hE
      refine StillVC.run (StillVC.lenN (hA.ext oh.ext) sl42 ?_)
      refine Br.dec (fun c21 => ?_) (fun hc => absurd (by omega) hc)
      refine StillVC.run (StillVC.lenN (hB.ext oh.ext) sl42 ?_)
      refine Br.dec (fun c23 => ?_) (fun hc => absurd (by omega) hc)
      refine DrawVC.intro [0, 1, 2, 4, 5, 6, 9] [3, 7] [8] [0, 1, 2, 3, 4, 5, 6, 7, 8, 9] mixed (by kernel_rfl) rfl (fun _ _ _ _ h => h) ?_
      refine StillVC.idxN sl42 ty23 (hA.ext oh.ext) rfl (by omega) (by omega) ?_
      refine StillVC.loadFT ty23 (hA.ext oh.ext) (fun _ => rfl) (by decide) rfl (by assumption) ?_
      refine StillVC.idxN sl42 ty23 (hB.ext oh.ext) rfl (by omega) (by omega) ?_
      refine StillVC.loadFT ty23 (hB.ext oh.ext) (fun _ => rfl) (by decide) rfl (by assumption) ?_
      refine CallVC.ret (rcompare_spec x.k x.n x.t y.k y.n y.t _) ?_
      rintro _ h1 ⟨rfl, oc⟩
      have o1 := oc.thenE (by assumption)
      by_cases hc : cmpW x y = 0
      · rw [if_neg (by omega)] at hE
        unfold cmpW at hc
        rw [hc]
        refine Br.ff ?_
        refine Ar.i64 (by omega) (by omega) ?_
        refine ⟨rfl, ?_⟩
        exact ⟨⟨i + 1, by omega, by omega, rfl, hE, o1⟩, by simp; omega⟩
      · rw [if_pos hc] at hE
        unfold cmpW at hc hE
        refine Br.ndec (fun c50 => ?_) (fun hc => absurd hc (by first | omega | assumption | decide | exact rfl))
        refine RetVC.one rfl ?_
        exact ⟨by rw [← hE], o1⟩
    · rw [cmpRow_end hi hj (by omega)] at hE
      by_cases hla' : i < a.length
      · refine StillVC.run (StillVC.lenN (hA.ext oh.ext) sl42 ?_)
        refine Br.dec (fun c61 => ?_) (fun hc => absurd (by omega) hc)
        refine StillVC.run (StillVC.lenN (hB.ext oh.ext) sl42 ?_)
        refine Br.dec (fun hc => absurd hc (by omega)) (fun c63 => ?_)
        refine StillVC.run (StillVC.lenN (hA.ext oh.ext) sl42 ?_)
        refine StillVC.run (StillVC.lenN (hB.ext oh.ext) sl42 ?_)
        refine CallVC.ret (sign_spec a.length b.length _) ?_
        rintro _ h1 ⟨rfl, oc⟩
        have o1 := oc.thenE (by assumption)
        refine RetVC.one rfl ?_
        exact ⟨by rw [← hE], o1⟩
      · refine StillVC.run (StillVC.lenN (hA.ext oh.ext) sl42 ?_)
        refine Br.dec (fun hc => absurd hc (by omega)) (fun c71 => ?_)
        refine Br.ff ?_
        refine StillVC.run (StillVC.lenN (hA.ext oh.ext) sl42 ?_)
        refine StillVC.run (StillVC.lenN (hB.ext oh.ext) sl42 ?_)
        refine CallVC.ret (sign_spec a.length b.length _) ?_
        rintro _ h1 ⟨rfl, oc⟩
        have o1 := oc.thenE (by assumption)
        refine RetVC.one rfl ?_
        exact ⟨by rw [← hE], o1⟩

end Go.Proofs.YtffpaippmfafjaaGreatDoor
