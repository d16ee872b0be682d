/-
  The statement ValueRows of chapter 2, walked.
-/
import Derived.Test.YtffpaippmfafjaaGreatDoorStructs
import Derived.Test.YtffpaippmfafjaaGreatDoorFnHeadV
import Derived.Test.YtffpaippmfafjaaGreatDoorLaw3
namespace Go.Proofs.YtffpaippmfafjaaGreatDoor
open Go

def rawVl (x : Int × Int × List UInt8) : Vl := ⟨x.1, x.2.1, x.2.2⟩

theorem rawVl_arr {h : Heap} {v : Value} {xs : List (Int × Int × List UInt8)} (a : ArrN 3 h v xs.length (xs.flatMap rawC)) : ArrN 3 h v (xs.map rawVl).length ((xs.map rawVl).flatMap vlC) := by
  have e : (xs.map rawVl).flatMap vlC = xs.flatMap rawC := by
    clear a
    induction xs with
    | nil => rfl
    | cons x xs ih =>
      rw [List.map_cons, List.flatMap_cons, List.flatMap_cons]
      exact congrArg _ ih
  rw [e, List.length_map]
  exact a

instance : DecidableEq Vl := fun x y => decidable_of_iff (x.k = y.k ∧ x.n = y.n ∧ x.t = y.t) (by obtain ⟨a, b, c⟩ := x; obtain ⟨d, e, f⟩ := y; simp)

theorem vl_eq (x y : Vl) : (decide (x.k = y.k) && (decide (x.n = y.n) && (decide (x.t = y.t) && true))) = decide (x = y) := by
  have e : x = y ↔ x.k = y.k ∧ x.n = y.n ∧ x.t = y.t := by
    obtain ⟨a, b, c⟩ := x
    obtain ⟨d, e, f⟩ := y
    simp
  rw [Bool.eq_iff_iff]
  simp [e]

theorem take_eq {a b : List Vl} {i : Nat} (h1 : i ≤ a.length) (h2 : i ≤ b.length) (h : a.length ≤ i ∨ b.length ≤ i) : (a.length = b.length ∧ a.take i = b.take i) ↔ a = b := by
  constructor
  · rintro ⟨hl, e⟩
    rwa [List.take_of_length_le (by omega), List.take_of_length_le (by omega)] at e
  · rintro rfl
    exact ⟨rfl, rfl⟩

theorem take_step {a b : List Vl} {i : Nat} {x y : Vl} (hx : a[i]? = some x) (hy : b[i]? = some y) : (a.length = b.length ∧ a.take (i + 1) = b.take (i + 1)) ↔ (a.length = b.length ∧ a.take i = b.take i) ∧ x = y := by
  have hi := (List.getElem?_eq_some_iff.1 hx).1
  have hj := (List.getElem?_eq_some_iff.1 hy).1
  rw [List.take_add_one, List.take_add_one, hx, hy]
  constructor
  · rintro ⟨hl, e⟩
    have := List.append_inj e (by simp; omega)
    exact ⟨⟨hl, this.1⟩, by simpa using this.2⟩
  · rintro ⟨⟨hl, e⟩, rfl⟩
    exact ⟨hl, by rw [e]⟩

set_option maxHeartbeats 8000000 in
set_option maxRecDepth 100000 in
theorem rows_spec (a b c : List Vl) (va vb vc : Value) (h : Heap) (hA : ArrN 3 h va a.length (a.flatMap vlC)) (hB : ArrN 3 h vb b.length (b.flatMap vlC)) (hC : ArrN 3 h vc c.length (c.flatMap vlC)) (hT : TabH h) (hV : VarH h) :
    SpecR Tryz.prog 10 [va, vb, vc] h fun v h' => v = .bool true ∧ Own h [] h' := by
  refine Spec.enter Tryz.func10 rfl Tryz.ntmps10 (by kernel_rfl) ?_
  have o0 := Own.refl h
  refine CallVC.ret (head_spec _ (hT.ext (Own.ext (by assumption))) (hV.ext (Own.ext (by assumption)))) ?_
  rintro _ h1 ⟨rfl, oc1⟩
  have p1 := oc1.thenE (by assumption)
  have hA1 := hA.ext p1.ext
  have hB1 := hB.ext p1.ext
  have hC1 := hC.ext p1.ext
  by_cases hla : 20 < a.length
  · refine StillVC.run (StillVC.lenN hA1 sl42 ?_)
    refine Br.dec (fun c21 => ?_) (fun hc => absurd (by omega) hc)
    refine Br.tt ?_
    refine RetVC.one rfl ?_
    exact ⟨rfl, Own.sel (by assumption) [] rfl⟩
  by_cases hlb : 20 < b.length
  · refine StillVC.run (StillVC.lenN hA1 sl42 ?_)
    refine Br.dec (fun hc => absurd hc (by omega)) (fun c31 => ?_)
    refine StillVC.run (StillVC.lenN hB1 sl42 ?_)
    refine Br.dec (fun c33 => ?_) (fun hc => absurd (by omega) hc)
    refine Br.tt ?_
    refine RetVC.one rfl ?_
    exact ⟨rfl, Own.sel (by assumption) [] rfl⟩
  by_cases hlc : 20 < c.length
  · refine StillVC.run (StillVC.lenN hA1 sl42 ?_)
    refine Br.dec (fun hc => absurd hc (by omega)) (fun c41 => ?_)
    refine StillVC.run (StillVC.lenN hB1 sl42 ?_)
    refine Br.dec (fun hc => absurd hc (by omega)) (fun c43 => ?_)
    refine StillVC.run (StillVC.lenN hC1 sl42 ?_)
    refine Br.dec (fun c45 => ?_) (fun hc => absurd (by omega) hc)
    refine Br.tt ?_
    refine RetVC.one rfl ?_
    exact ⟨rfl, Own.sel (by assumption) [] rfl⟩
  refine StillVC.run (StillVC.lenN hA1 sl42 ?_)
  refine Br.dec (fun hc => absurd hc (by omega)) (fun c51 => ?_)
  refine StillVC.run (StillVC.lenN hB1 sl42 ?_)
  refine Br.dec (fun hc => absurd hc (by omega)) (fun c53 => ?_)
  refine StillVC.run (StillVC.lenN hC1 sl42 ?_)
  refine Br.dec (fun hc => absurd hc (by omega)) (fun c55 => ?_)
  refine CallVC.ret (short_spec a _ _ (hA.ext (Own.ext (by assumption))) (by omega)) ?_
  rintro _ h60 ⟨rfl, oc⟩
  have p60 := oc.thenE (by assumption)
  clear oc
  by_cases hsa : shortP a
  case neg =>
    rw [decide_eq_false hsa]
    refine Br.tt ?_
    refine Br.tt ?_
    refine RetVC.one rfl ?_
    exact ⟨rfl, Own.sel (by assumption) [] rfl⟩
  rw [decide_eq_true hsa]
  refine Br.ff ?_
  refine CallVC.ret (short_spec b _ _ (hB.ext (Own.ext (by assumption))) (by omega)) ?_
  rintro _ h80 ⟨rfl, oc⟩
  have p80 := oc.thenE (by assumption)
  clear oc
  by_cases hsb : shortP b
  case neg =>
    rw [decide_eq_false hsb]
    refine Br.tt ?_
    refine Br.tt ?_
    refine RetVC.one rfl ?_
    exact ⟨rfl, Own.sel (by assumption) [] rfl⟩
  rw [decide_eq_true hsb]
  refine Br.ff ?_
  refine CallVC.ret (short_spec c _ _ (hC.ext (Own.ext (by assumption))) (by omega)) ?_
  rintro _ h100 ⟨rfl, oc⟩
  have p100 := oc.thenE (by assumption)
  clear oc
  by_cases hsc : shortP c
  case neg =>
    rw [decide_eq_false hsc]
    refine Br.tt ?_
    refine RetVC.one rfl ?_
    exact ⟨rfl, Own.sel (by assumption) [] rfl⟩
  rw [decide_eq_true hsc]
  refine Br.ff ?_
  refine CallVC.ret (compareRows_spec a b _ _ _ (hA.ext (Own.ext (by assumption))) (hB.ext (Own.ext (by assumption))) (by omega) (by omega)) ?_
  rintro _ h200 ⟨rfl, oc⟩
  have p200 := oc.thenE (by assumption)
  clear oc
  have g1 := cmpRow_neg a b
  have z1 := cmpRow_zero a b
  have r1 := cmpRow_rng a b
  have tr := cmpRow_trans a b c
  generalize hcab : cmpRow a b = cab at *
  refine CallVC.ret (rcompareRows_spec a b _ _ _ (hA.ext (Own.ext (by assumption))) (hB.ext (Own.ext (by assumption))) (by omega) (by omega)) ?_
  rintro _ h220 ⟨rfl, oc⟩
  have p220 := oc.thenE (by assumption)
  clear oc
  rw [hcab]
  refine Br.ndec (fun hc => absurd (by first | omega | assumption | decide | exact rfl) hc) (fun c230 => ?_)
  refine CallVC.ret (compareRows_spec b a _ _ _ (hB.ext (Own.ext (by assumption))) (hA.ext (Own.ext (by assumption))) (by omega) (by omega)) ?_
  rintro _ h240 ⟨rfl, oc⟩
  have p240 := oc.thenE (by assumption)
  clear oc
  rw [g1]
  refine Ar.i64 (by omega) (by omega) ?_
  refine Br.ndec (fun hc => absurd (by first | omega | assumption | decide | exact rfl) hc) (fun c250 => ?_)
  refine StillVC.run (StillVC.lenN (hA.ext p240.ext) sl42 ?_)
  refine StillVC.run (StillVC.lenN (hB.ext p240.ext) sl42 ?_)
  refine LoopVC.intro [9, 10, 62, 63, 64, 65, 66, 67, 68, 69, 70, 71, 72, 73, 74, 75, 76, 77, 78, 79, 80, 81, 82, 83, 84, 85] [9, 10] (fun vs hh => ∃ (i : Nat), i ≤ a.length ∧ i ≤ b.length ∧ vs = [.bool (decide (a.length = b.length ∧ a.take i = b.take i)), .int .i64 i] ∧ Own h [] hh) (fun vs _ => match vs with | [_, .int _ i] => a.length - i.toNat | _ => 0) ?_ ?_
  · refine ⟨0, by omega, by omega, ?_, Own.sel (by assumption) [] rfl⟩
    have e : decide ((a.length : Int) = b.length) = decide (a.length = b.length ∧ a.take 0 = b.take 0) := decide_eq_decide.2 (by simp; omega)
    rw [e]
    rfl
  · rintro vs junk hh ⟨i, hi, hj, rfl, oh⟩
    have hA2 := hA.ext oh.ext
    have hB2 := hB.ext oh.ext
    by_cases hlt : i < a.length ∧ i < b.length
    · obtain ⟨x, hx⟩ := getx hlt.1
      obtain ⟨y, hy⟩ := getx hlt.2
      have hst : decide (a.length = b.length ∧ a.take (i + 1) = b.take (i + 1)) = decide ((a.length = b.length ∧ a.take i = b.take i) ∧ x = y) := decide_eq_decide.2 (take_step hx hy)
      by_cases hq : a.length = b.length ∧ a.take i = b.take i
      · rw [decide_eq_true hq]
        refine StillVC.run (StillVC.lenN hA2 sl42 ?_)
        refine Br.dec (fun c261 => ?_) (fun hc => absurd (by omega) hc)
        refine StillVC.run (StillVC.lenN hB2 sl42 ?_)
        refine Br.dec (fun c263 => ?_) (fun hc => absurd (by omega) hc)
        refine DrawVC.intro [0, 1, 2, 3, 4, 6, 7, 8, 10, 11, 12] [5, 9] [] [0, 1, 2, 3, 4, 5, 6, 7, 8, 9, 10, 11, 12] mixed (by kernel_rfl) rfl (fun _ _ _ _ h => h) ?_
        refine Br.tt ?_
        refine StillVC.idxN sl42 ty23 hA2 rfl (by omega) (by omega) ?_
        refine StillVC.loadFT ty23 hA2 (fun _ => rfl) (by decide) rfl (by assumption) ?_
        refine StillVC.idxN sl42 ty23 hB2 rfl (by omega) (by omega) ?_
        refine StillVC.loadFT ty23 hB2 (fun _ => rfl) (by decide) rfl (by assumption) ?_
        refine StillVC.eqS pl23 rfl rfl rfl rfl ?_
        refine Ar.i64 (by omega) (by omega) ?_
        refine ⟨rfl, ?_⟩
        refine ⟨⟨i + 1, by omega, by omega, ?_, oh⟩, by simp; omega⟩
        rw [hst, vl_eq]
        simp only [decide_eq_true hq, hq, true_and, and_self]
        rfl
      · rw [decide_eq_false hq]
        refine StillVC.run (StillVC.lenN hA2 sl42 ?_)
        refine Br.dec (fun c281 => ?_) (fun hc => absurd (by omega) hc)
        refine StillVC.run (StillVC.lenN hB2 sl42 ?_)
        refine Br.dec (fun c283 => ?_) (fun hc => absurd (by omega) hc)
        refine DrawVC.intro [0, 1, 2, 3, 4, 6, 7, 8, 10, 11, 12] [5, 9] [] [0, 1, 2, 3, 4, 5, 6, 7, 8, 9, 10, 11, 12] mixed (by kernel_rfl) rfl (fun _ _ _ _ h => h) ?_
        refine Br.ff ?_
        refine Ar.i64 (by omega) (by omega) ?_
        refine ⟨rfl, ?_⟩
        refine ⟨⟨i + 1, by omega, by omega, ?_, oh⟩, by simp; omega⟩
        rw [hst]
        simp only [hq, false_and, decide_false]
        rfl
    · have hst : decide (a.length = b.length ∧ a.take i = b.take i) = decide (a = b) := by
        have q := take_eq hi hj (by omega)
        rw [Bool.eq_iff_iff, decide_eq_true_iff, decide_eq_true_iff]
        exact q
      rw [hst]
      have hz : decide (cab = 0) = decide (a = b) := by rw [Bool.eq_iff_iff, decide_eq_true_iff, decide_eq_true_iff]; exact z1
      by_cases hia : i < a.length
      · skip
        by_cases hp : 0 < cab
        · refine StillVC.run (StillVC.lenN hA2 sl42 ?_)
          refine Br.dec (fun c301 => ?_) (fun hc => absurd (by omega) hc)
          refine StillVC.run (StillVC.lenN hB2 sl42 ?_)
          refine Br.dec (fun hc => absurd hc (by omega)) (fun c303 => ?_)
          refine Br.tt ?_
          refine StillVC.run (StillVC.eqB bool4 rfl rfl ?_)
          refine Br.dec (fun c305 => ?_) (fun hc => absurd (by omega) hc)
          refine Br.dec (fun c306 => ?_) (fun hc => absurd (by omega) hc)
          refine RetVC.one rfl ?_
          exact ⟨rfl, Own.sel (by assumption) [] rfl⟩
        refine StillVC.run (StillVC.lenN hA2 sl42 ?_)
        refine Br.dec (fun c321 => ?_) (fun hc => absurd (by omega) hc)
        refine StillVC.run (StillVC.lenN hB2 sl42 ?_)
        refine Br.dec (fun hc => absurd hc (by omega)) (fun c323 => ?_)
        refine Br.tt ?_
        refine StillVC.run (StillVC.eqB bool4 rfl rfl ?_)
        refine Br.dec (fun c325 => ?_) (fun hc => absurd (by omega) hc)
        refine Br.dec (fun hc => absurd hc (by omega)) (fun c326 => ?_)
        refine CallVC.ret (compareRows_spec b c _ _ _ (hB.ext (Own.ext (by assumption))) (hC.ext (Own.ext (by assumption))) (by omega) (by omega)) ?_
        rintro _ h340 ⟨rfl, oc⟩
        have p340 := oc.thenE (by assumption)
        clear oc
        by_cases hp2 : 0 < cmpRow b c
        · refine Br.dec (fun c350 => ?_) (fun hc => absurd (by omega) hc)
          refine RetVC.one rfl ?_
          exact ⟨rfl, Own.sel (by assumption) [] rfl⟩
        refine Br.dec (fun hc => absurd hc (by omega)) (fun c360 => ?_)
        refine CallVC.ret (compareRows_spec a c _ _ _ (hA.ext (Own.ext (by assumption))) (hC.ext (Own.ext (by assumption))) (by omega) (by omega)) ?_
        rintro _ h370 ⟨rfl, oc⟩
        have p370 := oc.thenE (by assumption)
        clear oc
        have tr := tr (by omega) (by omega)
        refine RetVC.one rfl ?_
        exact ⟨by rw [decide_eq_true tr], Own.sel (by assumption) [] rfl⟩
      · skip
        by_cases hp : 0 < cab
        · refine StillVC.run (StillVC.lenN hA2 sl42 ?_)
          refine Br.dec (fun hc => absurd hc (by omega)) (fun c501 => ?_)
          refine Br.ff ?_
          refine Br.tt ?_
          refine StillVC.run (StillVC.eqB bool4 rfl rfl ?_)
          refine Br.dec (fun c503 => ?_) (fun hc => absurd (by omega) hc)
          refine Br.dec (fun c504 => ?_) (fun hc => absurd (by omega) hc)
          refine RetVC.one rfl ?_
          exact ⟨rfl, Own.sel (by assumption) [] rfl⟩
        refine StillVC.run (StillVC.lenN hA2 sl42 ?_)
        refine Br.dec (fun hc => absurd hc (by omega)) (fun c521 => ?_)
        refine Br.ff ?_
        refine Br.tt ?_
        refine StillVC.run (StillVC.eqB bool4 rfl rfl ?_)
        refine Br.dec (fun c523 => ?_) (fun hc => absurd (by omega) hc)
        refine Br.dec (fun hc => absurd hc (by omega)) (fun c524 => ?_)
        refine CallVC.ret (compareRows_spec b c _ _ _ (hB.ext (Own.ext (by assumption))) (hC.ext (Own.ext (by assumption))) (by omega) (by omega)) ?_
        rintro _ h540 ⟨rfl, oc⟩
        have p540 := oc.thenE (by assumption)
        clear oc
        by_cases hp2 : 0 < cmpRow b c
        · refine Br.dec (fun c550 => ?_) (fun hc => absurd (by omega) hc)
          refine RetVC.one rfl ?_
          exact ⟨rfl, Own.sel (by assumption) [] rfl⟩
        refine Br.dec (fun hc => absurd hc (by omega)) (fun c560 => ?_)
        refine CallVC.ret (compareRows_spec a c _ _ _ (hA.ext (Own.ext (by assumption))) (hC.ext (Own.ext (by assumption))) (by omega) (by omega)) ?_
        rintro _ h570 ⟨rfl, oc⟩
        have p570 := oc.thenE (by assumption)
        clear oc
        have tr := tr (by omega) (by omega)
        refine RetVC.one rfl ?_
        exact ⟨by rw [decide_eq_true tr], Own.sel (by assumption) [] rfl⟩

end Go.Proofs.YtffpaippmfafjaaGreatDoor
