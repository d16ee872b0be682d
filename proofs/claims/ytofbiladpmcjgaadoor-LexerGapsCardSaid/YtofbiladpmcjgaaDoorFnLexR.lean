/-
  The reference lexer's small functions: bytes, gaps, symbols.
-/
import Derived.Test.YtofbiladpmcjgaaDoorStructs
import Derived.Test.YtofbiladpmcjgaaDoorFnLex
namespace Go.Proofs.YtofbiladpmcjgaaDoor
open Go

set_option maxRecDepth 100000 in
theorem rletter_spec (c : UInt8) (h : Heap) : SpecR Tryd.prog 31 [.int .u8 c.toNat] h fun r h' => r = .bool (letterB c) ∧ Own h [] h' := by
  refine Spec.enter Tryd.func31 rfl Tryd.ntmps31 (by kernel_rfl) ?_
  have o0 := Own.refl h
  by_cases h1 : 97 ≤ c.toNat ∧ c.toNat ≤ 122 <;> by_cases h2 : 65 ≤ c.toNat ∧ c.toNat ≤ 90
  · refine Br.dec (fun c10 => ?_) (fun hc => absurd (by omega) hc)
    refine Br.dec (fun c11 => ?_) (fun hc => absurd (by omega) hc)
    refine RetVC.one rfl ?_
    all_goals exact ⟨congrArg Value.bool (by (try unfold letterB); (try unfold digitB); first | exact (decide_eq_false (by omega)).symm | exact (decide_eq_true (by omega)).symm | exact decide_eq_decide.2 (by omega)), o0⟩
  · refine Br.dec (fun c10 => ?_) (fun hc => absurd (by omega) hc)
    refine Br.dec (fun c11 => ?_) (fun hc => absurd (by omega) hc)
    refine RetVC.one rfl ?_
    all_goals exact ⟨congrArg Value.bool (by (try unfold letterB); (try unfold digitB); first | exact (decide_eq_false (by omega)).symm | exact (decide_eq_true (by omega)).symm | exact decide_eq_decide.2 (by omega)), o0⟩
  · refine Br.dec (fun hc => absurd hc (by omega)) (fun c10 => ?_)
    refine Br.dec (fun c11 => ?_) (fun hc => absurd (by omega) hc)
    refine RetVC.one rfl ?_
    all_goals exact ⟨congrArg Value.bool (by (try unfold letterB); (try unfold digitB); first | exact (decide_eq_false (by omega)).symm | exact (decide_eq_true (by omega)).symm | exact decide_eq_decide.2 (by omega)), o0⟩
  · refine Br.dec (fun c10 => ?_) (fun c10 => ?_)
    refine Br.dec (fun hc => absurd hc (by omega)) (fun c11 => ?_)
    refine Br.dec (fun c12 => ?_) (fun hc => absurd (by omega) hc)
    refine RetVC.one rfl ?_
    rotate_left
    refine Br.dec (fun c13 => ?_) (fun c13 => ?_)
    refine RetVC.one rfl ?_
    rotate_left
    refine RetVC.one rfl ?_
    all_goals exact ⟨congrArg Value.bool (by (try unfold letterB); (try unfold digitB); first | exact (decide_eq_false (by omega)).symm | exact (decide_eq_true (by omega)).symm | exact decide_eq_decide.2 (by omega)), o0⟩

set_option maxRecDepth 100000 in
theorem rdigit_spec (c : UInt8) (h : Heap) : SpecR Tryd.prog 33 [.int .u8 c.toNat] h fun r h' => r = .bool (digitB c) ∧ Own h [] h' := by
  refine Spec.enter Tryd.func33 rfl Tryd.ntmps33 (by kernel_rfl) ?_
  have o0 := Own.refl h
  refine Br.dec (fun c10 => ?_) (fun c10 => ?_)
  refine RetVC.one rfl ?_
  rotate_left
  refine RetVC.one rfl ?_
  · exact ⟨congrArg Value.bool (by (try unfold letterB); (try unfold digitB); first | exact (decide_eq_false (by omega)).symm | exact (decide_eq_true (by omega)).symm | exact decide_eq_decide.2 (by omega)), o0⟩
  · exact ⟨congrArg Value.bool (by (try unfold letterB); (try unfold digitB); first | exact (decide_eq_false (by omega)).symm | exact (decide_eq_true (by omega)).symm | exact decide_eq_decide.2 (by omega)), o0⟩

set_option maxRecDepth 100000 in
theorem rinner_spec (c : UInt8) (h : Heap) : SpecR Tryd.prog 32 [.int .u8 c.toNat] h fun r h' => r = .bool (innerB c) ∧ Own h [] h' := by
  unfold innerB
  refine Spec.enter Tryd.func32 rfl Tryd.ntmps32 (by kernel_rfl) ?_
  have o0 := Own.refl h
  refine CallVC.ret (rletter_spec c _) ?_
  rintro _ h1 ⟨rfl, oa⟩
  have o1 := o0.ext' oa
  cases hb : letterB c with
  | true =>
    refine Br.tt ?_
    refine RetVC.one rfl ?_
    exact ⟨rfl, o1⟩
  | false =>
    refine Br.ff ?_
    refine CallVC.ret (rdigit_spec c _) ?_
    rintro _ h2 ⟨rfl, ob⟩
    have o2 := o1.ext' ob
    cases hd : digitB c with
    | true =>
      refine Br.tt ?_
      refine RetVC.one rfl ?_
      exact ⟨rfl, o2⟩
    | false =>
      refine Br.ff ?_
      refine RetVC.one rfl ?_
      refine ⟨congrArg Value.bool ?_, o2⟩
      simp only [Bool.or_self, Bool.false_or]
      exact decide_eq_decide.2 (by omega)

theorem gapF_step {t : List UInt8} {j : Nat} {c : UInt8} (k : Bool) (hc : t[j]? = some c) :
    gapF k (t.drop j) = if c.toNat = 10 then 1 + gapF false (t.drop (j + 1)) else if c.toNat = 35 then 1 + gapF true (t.drop (j + 1)) else if k = false ∧ c.toNat ≠ 32 ∧ c.toNat ≠ 9 then 0 else 1 + gapF k (t.drop (j + 1)) := by
  obtain ⟨hj, rfl⟩ := List.getElem?_eq_some_iff.1 hc
  rw [List.drop_eq_getElem_cons hj, gapF]

set_option maxRecDepth 100000 in
theorem rgap_spec (t : List UInt8) (i : Nat) (h : Heap) (hi : i ≤ t.length) (hl : t.length ≤ 1000000) :
    SpecR Tryd.prog 21 [.string ⟨⟨t⟩⟩, .int .i64 i] h fun r h' => r = .int .i64 (gapF false (t.drop i)) ∧ Own h [] h' := by
  refine Spec.enter Tryd.func21 rfl Tryd.ntmps21 (by kernel_rfl) ?_
  have o0 := Own.refl h
  refine LoopVC.intro [4, 5, 6, 7, 8, 9, 10, 11, 12, 13, 14, 15, 16, 17, 18, 19, 20, 21, 22, 23, 24, 25, 26, 27, 28, 29, 30, 31, 32, 33, 34, 35] [5, 6] (fun vs hh => ∃ (n : Nat) (k : Bool), i + n ≤ t.length ∧ vs = [.int .i64 n, .bool k] ∧ n + gapF k (t.drop (i + n)) = gapF false (t.drop i) ∧ Own h [] hh) (fun vs _ => match vs with | [.int _ n, _] => t.length - n.toNat | _ => 0) ?_ ?_
  · exact ⟨0, false, by omega, rfl, by simp, o0⟩
  · rintro vs junk hh ⟨n, k, hn, rfl, ha, oh⟩
    by_cases hlt : i + n < t.length
    · obtain ⟨c, hc⟩ := getx hlt
      have hs := gapF_step k hc
      rw [hs] at ha
      by_cases h10 : c.toNat = 10
      · rw [if_pos h10] at ha
        refine Ar.i64 (by omega) (by omega) ?_
        refine StillVC.run (StillVC.lenS rfl str9 ?_)
        refine Br.dec (fun c21 => ?_) (fun hc => absurd (by omega) hc)
        refine Ar.i64 (by omega) (by omega) ?_
        refine StillVC.run (StillVC.strIdx rfl rfl str9 (by omega) (by assumption) ?_)
        refine Br.dec (fun c23 => ?_) (fun hc => absurd (by omega) hc)
        refine Ar.i64 (by omega) (by omega) ?_
        refine ⟨rfl, ?_⟩
        exact ⟨⟨n + 1, false, by omega, rfl, by rw [← Nat.add_assoc]; omega, oh⟩, by simp; omega⟩
      · rw [if_neg h10] at ha
        by_cases h35 : c.toNat = 35
        · rw [if_pos h35] at ha
          refine Ar.i64 (by omega) (by omega) ?_
          refine StillVC.run (StillVC.lenS rfl str9 ?_)
          refine Br.dec (fun c41 => ?_) (fun hc => absurd (by omega) hc)
          refine Ar.i64 (by omega) (by omega) ?_
          refine StillVC.run (StillVC.strIdx rfl rfl str9 (by omega) (by assumption) ?_)
          refine Br.dec (fun hc => absurd hc (by omega)) (fun c43 => ?_)
          refine Br.dec (fun c44 => ?_) (fun hc => absurd (by omega) hc)
          refine Ar.i64 (by omega) (by omega) ?_
          refine ⟨rfl, ?_⟩
          exact ⟨⟨n + 1, true, by omega, rfl, by rw [← Nat.add_assoc]; omega, oh⟩, by simp; omega⟩
        · rw [if_neg h35] at ha
          cases k with
          | true =>
            rw [if_neg (by simp)] at ha
            refine Ar.i64 (by omega) (by omega) ?_
            refine StillVC.run (StillVC.lenS rfl str9 ?_)
            refine Br.dec (fun c61 => ?_) (fun hc => absurd (by omega) hc)
            refine Ar.i64 (by omega) (by omega) ?_
            refine StillVC.run (StillVC.strIdx rfl rfl str9 (by omega) (by assumption) ?_)
            refine Br.dec (fun hc => absurd hc (by omega)) (fun c63 => ?_)
            refine Br.dec (fun hc => absurd hc (by omega)) (fun c64 => ?_)
            refine Br.ff ?_
            refine Br.ff ?_
            refine Ar.i64 (by omega) (by omega) ?_
            refine ⟨rfl, ?_⟩
            exact ⟨⟨n + 1, true, by omega, rfl, by rw [← Nat.add_assoc]; omega, oh⟩, by simp; omega⟩
          | false =>
            by_cases h32 : c.toNat = 32
            · rw [if_neg (by omega)] at ha
              refine Ar.i64 (by omega) (by omega) ?_
              refine StillVC.run (StillVC.lenS rfl str9 ?_)
              refine Br.dec (fun c81 => ?_) (fun hc => absurd (by omega) hc)
              refine Ar.i64 (by omega) (by omega) ?_
              refine StillVC.run (StillVC.strIdx rfl rfl str9 (by omega) (by assumption) ?_)
              refine Br.dec (fun hc => absurd hc (by omega)) (fun c83 => ?_)
              refine Br.dec (fun hc => absurd hc (by omega)) (fun c84 => ?_)
              refine Br.tt ?_
              refine Br.ndec (fun hc => absurd (by first | omega | assumption | decide | exact rfl) hc) (fun c85 => ?_)
              refine Br.ff ?_
              refine Ar.i64 (by omega) (by omega) ?_
              refine ⟨rfl, ?_⟩
              exact ⟨⟨n + 1, false, by omega, rfl, by rw [← Nat.add_assoc]; omega, oh⟩, by simp; omega⟩
            · by_cases h9 : c.toNat = 9
              · rw [if_neg (by omega)] at ha
                refine Ar.i64 (by omega) (by omega) ?_
                refine StillVC.run (StillVC.lenS rfl str9 ?_)
                refine Br.dec (fun c101 => ?_) (fun hc => absurd (by omega) hc)
                refine Ar.i64 (by omega) (by omega) ?_
                refine StillVC.run (StillVC.strIdx rfl rfl str9 (by omega) (by assumption) ?_)
                refine Br.dec (fun hc => absurd hc (by omega)) (fun c103 => ?_)
                refine Br.dec (fun hc => absurd hc (by omega)) (fun c104 => ?_)
                refine Br.tt ?_
                refine Br.ndec (fun c105 => ?_) (fun hc => absurd hc (by first | omega | assumption | decide | exact rfl))
                refine Br.ndec (fun hc => absurd (by first | omega | assumption | decide | exact rfl) hc) (fun c106 => ?_)
                refine Ar.i64 (by omega) (by omega) ?_
                refine ⟨rfl, ?_⟩
                exact ⟨⟨n + 1, false, by omega, rfl, by rw [← Nat.add_assoc]; omega, oh⟩, by simp; omega⟩
              · rw [if_pos ⟨rfl, h32, h9⟩] at ha
                refine Ar.i64 (by omega) (by omega) ?_
                refine StillVC.run (StillVC.lenS rfl str9 ?_)
                refine Br.dec (fun c121 => ?_) (fun hc => absurd (by omega) hc)
                refine Ar.i64 (by omega) (by omega) ?_
                refine StillVC.run (StillVC.strIdx rfl rfl str9 (by omega) (by assumption) ?_)
                refine Br.dec (fun hc => absurd hc (by omega)) (fun c123 => ?_)
                refine Br.dec (fun hc => absurd hc (by omega)) (fun c124 => ?_)
                refine Br.tt ?_
                refine Br.ndec (fun c125 => ?_) (fun hc => absurd hc (by first | omega | assumption | decide | exact rfl))
                refine Br.ndec (fun c126 => ?_) (fun hc => absurd hc (by first | omega | assumption | decide | exact rfl))
                refine RetVC.one rfl ?_
                exact ⟨by rw [← ha]; rfl, oh⟩
    · have : t.drop (i + n) = [] := List.drop_of_length_le (by omega)
      rw [this] at ha
      simp only [gapF, Nat.add_zero] at ha
      refine Ar.i64 (by omega) (by omega) ?_
      refine StillVC.run (StillVC.lenS rfl str9 ?_)
      refine Br.dec (fun hc => absurd hc (by omega)) (fun c141 => ?_)
      refine RetVC.one rfl ?_
      exact ⟨by rw [← ha], oh⟩

set_option maxRecDepth 100000 in
theorem rgaps_spec (t : List UInt8) (h : Heap) (hl : t.length ≤ 1000000) :
    SpecR Tryd.prog 12 [.string ⟨⟨t⟩⟩] h fun r h' => r = .bool (decide (gapF false t = t.length)) ∧ Own h [] h' := by
  refine Spec.enter Tryd.func12 rfl Tryd.ntmps12 (by kernel_rfl) ?_
  have o0 := Own.refl h
  refine CallVC.ret (rgap_spec t 0 _ (by omega) hl) ?_
  rintro _ h1 ⟨rfl, oa⟩
  have o1 := o0.ext' oa
  rw [List.drop_zero]
  refine StillVC.run (StillVC.lenS rfl str9 ?_)
  refine RetVC.one rfl ?_
  exact ⟨congrArg Value.bool (decide_eq_decide.2 (by omega)), o1⟩

theorem prefix2_iff {t : List UInt8} {i : Nat} {a b : UInt8} : Lib.hasPrefix (t.drop i) [a, b] = true ↔ t[i]? = some a ∧ t[i + 1]? = some b := by
  have h1 : (t.drop i)[0]? = t[i]? := by rw [List.getElem?_drop]; rfl
  have h2 : (t.drop i)[1]? = t[i + 1]? := by rw [List.getElem?_drop]
  rw [← h1, ← h2]
  generalize t.drop i = l
  unfold Lib.hasPrefix
  match l with
  | [] => simp
  | [x] => simp [List.isPrefixOf]
  | x :: y :: r =>
    rw [List.isPrefixOf_iff_prefix, List.cons_prefix_cons, List.cons_prefix_cons]
    simp only [List.nil_prefix, and_true, List.getElem?_cons_zero, List.getElem?_cons_succ, Option.some.injEq]
    exact ⟨fun h => ⟨h.1.symm, h.2.symm⟩, fun h => ⟨h.1.symm, h.2.symm⟩⟩

set_option maxRecDepth 100000 in
theorem rsymbol_spec (t : List UInt8) (i : Nat) (h : Heap) (hi : i < t.length) (hl : t.length ≤ 1000000) :
    SpecR Tryd.prog 35 [.string ⟨⟨t⟩⟩, .int .i64 i] h fun r h' => r = .int .i64 (symN (t.drop i)) ∧ Own h [] h' := by
  obtain ⟨c, hc⟩ := getx hi
  have hs : symN (t.drop i) = if (t[i + 1]? = some 61 ∧ (c = 33 ∨ c = 60)) then 2 else if c ∈ symB then 1 else 0 := by
    rw [symN_at hc]
    by_cases h1 : t[i + 1]? = some 61 ∧ (c = 33 ∨ c = 60)
    · rw [if_pos h1, if_pos]
      rcases h1 with ⟨h1, rfl | rfl⟩
      · exact .inl (prefix2_iff.2 ⟨hc, h1⟩)
      · exact .inr (prefix2_iff.2 ⟨hc, h1⟩)
    · rw [if_neg h1, if_neg]
      rintro (e | e)
      · have e := prefix2_iff.1 e
        rw [hc] at e
        exact h1 ⟨e.2, .inl (Option.some.inj e.1)⟩
      · have e := prefix2_iff.1 e
        rw [hc] at e
        exact h1 ⟨e.2, .inr (Option.some.inj e.1)⟩
  have toN : ∀ {a b : UInt8}, a ≠ b → a.toNat ≠ b.toNat := fun h e => h (UInt8.toNat_inj.1 e)
  refine Spec.enter Tryd.func35 rfl Tryd.ntmps35 (by kernel_rfl) ?_
  have o0 := Own.refl h
  by_cases hlt : i + 1 < t.length
  · obtain ⟨d, hd⟩ := getx hlt
    have hd' : t[((i : Int) + 1).toNat]? = some d := by rw [show ((i : Int) + 1).toNat = i + 1 by omega]; exact hd
    rw [hd] at hs
    by_cases hd61 : d = 61
    · subst hd61
      by_cases hc33 : c = 33
      · subst hc33
        rw [if_pos ⟨rfl, .inl rfl⟩] at hs
        rw [hs]
        refine Ar.i64 (by omega) (by omega) ?_
        refine StillVC.run (StillVC.lenS rfl str9 ?_)
        refine Br.dec (fun c151 => ?_) (fun hc => absurd (by omega) hc)
        refine Ar.i64 (by omega) (by omega) ?_
        refine StillVC.run (StillVC.strIdx rfl rfl str9 (by omega) (by assumption) ?_)
        refine Br.tt ?_
        refine StillVC.run (StillVC.strIdx rfl rfl str9 (by omega) (by assumption) ?_)
        refine Br.tt ?_
        refine Br.tt ?_
        refine RetVC.one rfl ?_
        exact ⟨rfl, o0⟩
      · have n33 : c.toNat ≠ 33 := toN hc33
        by_cases hc60 : c = 60
        · subst hc60
          rw [if_pos ⟨rfl, .inr rfl⟩] at hs
          rw [hs]
          refine Ar.i64 (by omega) (by omega) ?_
          refine StillVC.run (StillVC.lenS rfl str9 ?_)
          refine Br.dec (fun c171 => ?_) (fun hc => absurd (by omega) hc)
          refine Ar.i64 (by omega) (by omega) ?_
          refine StillVC.run (StillVC.strIdx rfl rfl str9 (by omega) (by assumption) ?_)
          refine Br.tt ?_
          refine StillVC.run (StillVC.strIdx rfl rfl str9 (by omega) (by assumption) ?_)
          refine Br.ff ?_
          refine StillVC.run (StillVC.strIdx rfl rfl str9 (by omega) (by assumption) ?_)
          refine Br.tt ?_
          refine RetVC.one rfl ?_
          exact ⟨rfl, o0⟩
        · have n60 : c.toNat ≠ 60 := toN hc60
          rw [if_neg (by rintro ⟨_, e | e⟩; exact hc33 e; exact hc60 e)] at hs
          refine Ar.i64 (by omega) (by omega) ?_
          refine StillVC.run (StillVC.lenS rfl str9 ?_)
          refine Br.dec (fun c191 => ?_) (fun hc => absurd (by omega) hc)
          refine Ar.i64 (by omega) (by omega) ?_
          refine StillVC.run (StillVC.strIdx rfl rfl str9 (by omega) (by assumption) ?_)
          refine Br.tt ?_
          refine StillVC.run (StillVC.strIdx rfl rfl str9 (by omega) (by assumption) ?_)
          refine Br.dec (fun hc => absurd hc (by omega)) (fun c194 => ?_)
          refine StillVC.run (StillVC.strIdx rfl rfl str9 (by omega) (by assumption) ?_)
          refine Br.dec (fun hc => absurd hc (by omega)) (fun c196 => ?_)
          refine LoopVC.intro [4, 5, 30, 31, 32, 33, 34, 35, 36, 37, 38, 39] [5] (fun vs hh => ∃ k, k ≤ 14 ∧ vs = [.int .i64 (k : Nat)] ∧ (∀ m, m < k → symB[m]? ≠ some c) ∧ Own h [] hh) (fun vs _ => match vs with | [.int _ k] => 14 - k.toNat | _ => 0) ?_ ?_
          · exact ⟨0, by omega, rfl, by simp, o0⟩
          · rintro vs junk hh ⟨k, hk, rfl, ha, oh⟩
            by_cases hk14 : k < 14
            · obtain ⟨x, hx⟩ := getx (show k < symB.length from hk14)
              have hx' : symB[((k : Nat) : Int).toNat]? = some x := hx
              by_cases hxc : x = c
              · have hm : c ∈ symB := by rw [← hxc]; exact List.mem_of_getElem? hx
                rw [if_pos hm] at hs
                rw [hs]
                subst hxc
                refine Br.dec (fun c210 => ?_) (fun hc => absurd (by omega) hc)
                refine DrawVC.intro [0, 1, 2, 3, 4, 5] [] [] [0, 1, 2, 3, 4, 5] mixed (by kernel_rfl) rfl (fun _ _ _ _ h => h) ?_
                refine StillVC.strIdx rfl rfl str9 (by omega) (by assumption) ?_
                refine StillVC.strIdx rfl rfl str9 (by omega) (by assumption) ?_
                refine Br.dec (fun c213 => ?_) (fun hc => absurd (by omega) hc)
                refine RetVC.one rfl ?_
                exact ⟨rfl, oh⟩
              · have hne : x.toNat ≠ c.toNat := fun e => hxc (UInt8.toNat_inj.1 e)
                refine Br.dec (fun c230 => ?_) (fun hc => absurd (by omega) hc)
                refine DrawVC.intro [0, 1, 2, 3, 4, 5] [] [] [0, 1, 2, 3, 4, 5] mixed (by kernel_rfl) rfl (fun _ _ _ _ h => h) ?_
                refine StillVC.strIdx rfl rfl str9 (by omega) (by assumption) ?_
                refine StillVC.strIdx rfl rfl str9 (by omega) (by assumption) ?_
                refine Br.dec (fun hc => absurd hc (by omega)) (fun c233 => ?_)
                refine Ar.i64 (by omega) (by omega) ?_
                refine ⟨rfl, ?_⟩
                refine ⟨⟨k + 1, by omega, rfl, fun m hm e => ?_, oh⟩, by simp; omega⟩
                by_cases hmk : m = k
                · rw [hmk, hx] at e
                  exact hxc (Option.some.inj e)
                · exact ha m (by omega) e
            · have hm : c ∉ symB := fun hm => by
                obtain ⟨m, hml, hme⟩ := List.mem_iff_getElem.1 hm
                have : m < 14 := hml
                exact ha m (by omega) (by rw [List.getElem?_eq_getElem hml, hme])
              rw [if_neg hm] at hs
              rw [hs]
              refine Br.dec (fun hc => absurd hc (by omega)) (fun c250 => ?_)
              refine RetVC.one rfl ?_
              exact ⟨rfl, oh⟩
    · have n61 : d.toNat ≠ 61 := toN hd61
      rw [if_neg (by rintro ⟨e, _⟩; exact hd61 (Option.some.inj e))] at hs
      refine Ar.i64 (by omega) (by omega) ?_
      refine StillVC.run (StillVC.lenS rfl str9 ?_)
      refine Br.dec (fun c281 => ?_) (fun hc => absurd (by omega) hc)
      refine Ar.i64 (by omega) (by omega) ?_
      refine StillVC.run (StillVC.strIdx rfl rfl str9 (by omega) (by assumption) ?_)
      refine Br.dec (fun hc => absurd hc (by omega)) (fun c283 => ?_)
      refine Br.ff ?_
      refine LoopVC.intro [4, 5, 30, 31, 32, 33, 34, 35, 36, 37, 38, 39] [5] (fun vs hh => ∃ k, k ≤ 14 ∧ vs = [.int .i64 (k : Nat)] ∧ (∀ m, m < k → symB[m]? ≠ some c) ∧ Own h [] hh) (fun vs _ => match vs with | [.int _ k] => 14 - k.toNat | _ => 0) ?_ ?_
      · exact ⟨0, by omega, rfl, by simp, o0⟩
      · rintro vs junk hh ⟨k, hk, rfl, ha, oh⟩
        by_cases hk14 : k < 14
        · obtain ⟨x, hx⟩ := getx (show k < symB.length from hk14)
          have hx' : symB[((k : Nat) : Int).toNat]? = some x := hx
          by_cases hxc : x = c
          · have hm : c ∈ symB := by rw [← hxc]; exact List.mem_of_getElem? hx
            rw [if_pos hm] at hs
            rw [hs]
            subst hxc
            refine Br.dec (fun c300 => ?_) (fun hc => absurd (by omega) hc)
            refine DrawVC.intro [0, 1, 2, 3, 4, 5] [] [] [0, 1, 2, 3, 4, 5] mixed (by kernel_rfl) rfl (fun _ _ _ _ h => h) ?_
            refine StillVC.strIdx rfl rfl str9 (by omega) (by assumption) ?_
            refine StillVC.strIdx rfl rfl str9 (by omega) (by assumption) ?_
            refine Br.dec (fun c303 => ?_) (fun hc => absurd (by omega) hc)
            refine RetVC.one rfl ?_
            exact ⟨rfl, oh⟩
          · have hne : x.toNat ≠ c.toNat := fun e => hxc (UInt8.toNat_inj.1 e)
            refine Br.dec (fun c320 => ?_) (fun hc => absurd (by omega) hc)
            refine DrawVC.intro [0, 1, 2, 3, 4, 5] [] [] [0, 1, 2, 3, 4, 5] mixed (by kernel_rfl) rfl (fun _ _ _ _ h => h) ?_
            refine StillVC.strIdx rfl rfl str9 (by omega) (by assumption) ?_
            refine StillVC.strIdx rfl rfl str9 (by omega) (by assumption) ?_
            refine Br.dec (fun hc => absurd hc (by omega)) (fun c323 => ?_)
            refine Ar.i64 (by omega) (by omega) ?_
            refine ⟨rfl, ?_⟩
            refine ⟨⟨k + 1, by omega, rfl, fun m hm e => ?_, oh⟩, by simp; omega⟩
            by_cases hmk : m = k
            · rw [hmk, hx] at e
              exact hxc (Option.some.inj e)
            · exact ha m (by omega) e
        · have hm : c ∉ symB := fun hm => by
            obtain ⟨m, hml, hme⟩ := List.mem_iff_getElem.1 hm
            have : m < 14 := hml
            exact ha m (by omega) (by rw [List.getElem?_eq_getElem hml, hme])
          rw [if_neg hm] at hs
          rw [hs]
          refine Br.dec (fun hc => absurd hc (by omega)) (fun c340 => ?_)
          refine RetVC.one rfl ?_
          exact ⟨rfl, oh⟩
  · rw [List.getElem?_eq_none (by omega), if_neg (by rintro ⟨e, _⟩; cases e)] at hs
    refine Ar.i64 (by omega) (by omega) ?_
    refine StillVC.run (StillVC.lenS rfl str9 ?_)
    refine Br.dec (fun hc => absurd hc (by omega)) (fun c381 => ?_)
    refine Br.ff ?_
    refine LoopVC.intro [4, 5, 30, 31, 32, 33, 34, 35, 36, 37, 38, 39] [5] (fun vs hh => ∃ k, k ≤ 14 ∧ vs = [.int .i64 (k : Nat)] ∧ (∀ m, m < k → symB[m]? ≠ some c) ∧ Own h [] hh) (fun vs _ => match vs with | [.int _ k] => 14 - k.toNat | _ => 0) ?_ ?_
    · exact ⟨0, by omega, rfl, by simp, o0⟩
    · rintro vs junk hh ⟨k, hk, rfl, ha, oh⟩
      by_cases hk14 : k < 14
      · obtain ⟨x, hx⟩ := getx (show k < symB.length from hk14)
        have hx' : symB[((k : Nat) : Int).toNat]? = some x := hx
        by_cases hxc : x = c
        · have hm : c ∈ symB := by rw [← hxc]; exact List.mem_of_getElem? hx
          rw [if_pos hm] at hs
          rw [hs]
          subst hxc
          refine Br.dec (fun c400 => ?_) (fun hc => absurd (by omega) hc)
          refine DrawVC.intro [0, 1, 2, 3, 4, 5] [] [] [0, 1, 2, 3, 4, 5] mixed (by kernel_rfl) rfl (fun _ _ _ _ h => h) ?_
          refine StillVC.strIdx rfl rfl str9 (by omega) (by assumption) ?_
          refine StillVC.strIdx rfl rfl str9 (by omega) (by assumption) ?_
          refine Br.dec (fun c403 => ?_) (fun hc => absurd (by omega) hc)
          refine RetVC.one rfl ?_
          exact ⟨rfl, oh⟩
        · have hne : x.toNat ≠ c.toNat := fun e => hxc (UInt8.toNat_inj.1 e)
          refine Br.dec (fun c420 => ?_) (fun hc => absurd (by omega) hc)
          refine DrawVC.intro [0, 1, 2, 3, 4, 5] [] [] [0, 1, 2, 3, 4, 5] mixed (by kernel_rfl) rfl (fun _ _ _ _ h => h) ?_
          refine StillVC.strIdx rfl rfl str9 (by omega) (by assumption) ?_
          refine StillVC.strIdx rfl rfl str9 (by omega) (by assumption) ?_
          refine Br.dec (fun hc => absurd hc (by omega)) (fun c423 => ?_)
          refine Ar.i64 (by omega) (by omega) ?_
          refine ⟨rfl, ?_⟩
          refine ⟨⟨k + 1, by omega, rfl, fun m hm e => ?_, oh⟩, by simp; omega⟩
          by_cases hmk : m = k
          · rw [hmk, hx] at e
            exact hxc (Option.some.inj e)
          · exact ha m (by omega) e
      · have hm : c ∉ symB := fun hm => by
          obtain ⟨m, hml, hme⟩ := List.mem_iff_getElem.1 hm
          have : m < 14 := hml
          exact ha m (by omega) (by rw [List.getElem?_eq_getElem hml, hme])
        rw [if_neg hm] at hs
        rw [hs]
        refine Br.dec (fun hc => absurd hc (by omega)) (fun c440 => ?_)
        refine RetVC.one rfl ?_
        exact ⟨rfl, oh⟩

end Go.Proofs.YtofbiladpmcjgaaDoor
