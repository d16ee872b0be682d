/-
 The reference lexer's small functions: bytes, gaps, symbols. The reference lexer's texts in quotes, and its tokens. The reference lexer; lists of tokens that are compared.
-/
import Derived.Test.YtnmfanjhepepbaaGreatDoorNStructs
import Derived.Test.YtnmfanjhepepbaaGreatDoorNMLex
set_option linter.all false
/- The reference lexer's small functions: bytes, gaps, symbols. -/
namespace Go.Proofs.YtnmfanjhepepbaaGreatDoor
open Go StillVC

set_option maxRecDepth 100000 in
theorem rletter_spec (c : UInt8) (h : Heap) : SpecR Tryz.prog 88 [.int .u8 c.toNat] h fun r h' => r = .bool (letterB c) ∧ Own h [] h' := by
 refine Spec.enter Tryz.func88 rfl Tryz.ntmps88 (by kernel_rfl) ?_
 have o0 := Own.refl h
 by_cases h1 : 97 ≤ c.toNat ∧ c.toNat ≤ 122 <;> by_cases h2 : 65 ≤ c.toNat ∧ c.toNat ≤ 90
 ·refine Br.dec (fun c10 => ?_) (fun hc => absurd (by omega) hc)
  refine Br.dec (fun c11 => ?_) (fun hc => absurd (by omega) hc)
  refine RetVC.one rfl ?_
  all_goals exact ⟨congrArg Value.bool (by (try unfold letterB); (try unfold digitB); first | exact (decide_eq_false (by omega)).symm | exact (decide_eq_true (by omega)).symm | exact decide_eq_decide.2 (by omega)), o0⟩
 ·refine Br.dec (fun c10 => ?_) (fun hc => absurd (by omega) hc)
  refine Br.dec (fun c11 => ?_) (fun hc => absurd (by omega) hc)
  refine RetVC.one rfl ?_
  all_goals exact ⟨congrArg Value.bool (by (try unfold letterB); (try unfold digitB); first | exact (decide_eq_false (by omega)).symm | exact (decide_eq_true (by omega)).symm | exact decide_eq_decide.2 (by omega)), o0⟩
 ·refine Br.dec (fun hc => absurd hc (by omega)) (fun c10 => ?_)
  refine Br.dec (fun c11 => ?_) (fun hc => absurd (by omega) hc)
  refine RetVC.one rfl ?_
  all_goals exact ⟨congrArg Value.bool (by (try unfold letterB); (try unfold digitB); first | exact (decide_eq_false (by omega)).symm | exact (decide_eq_true (by omega)).symm | exact decide_eq_decide.2 (by omega)), o0⟩
 ·refine Br.dec (fun c10 => ?_) (fun c10 => ?_)
  refine Br.dec (fun hc => absurd hc (by omega)) (fun c11 => ?_)
  refine Br.dec (fun c12 => ?_) (fun hc => absurd (by omega) hc)
  refine RetVC.one rfl ?_
  rotate_left
  refine Br.dec (fun c13 => ?_) (fun c13 => ?_)
  refine RetVC.one rfl ?_
  rotate_left
  refine RetVC.one rfl ?_
  all_goals exact ⟨congrArg Value.bool (by (try unfold letterB); (try unfold digitB); first | exact (decide_eq_false (by omega)).symm | exact (decide_eq_true (by omega)).symm | exact decide_eq_decide.2 (by omega)), o0⟩

set_option maxRecDepth 100000 in
theorem rdigit_spec (c : UInt8) (h : Heap) : SpecR Tryz.prog 90 [.int .u8 c.toNat] h fun r h' => r = .bool (digitB c) ∧ Own h [] h' := by
 refine Spec.enter Tryz.func90 rfl Tryz.ntmps90 (by kernel_rfl) ?_
 have o0 := Own.refl h
 refine Br.dec (fun c10 => ?_) (fun c10 => ?_)
 refine RetVC.one rfl ?_
 rotate_left
 refine RetVC.one rfl ?_
 ·exact ⟨congrArg Value.bool (by (try unfold letterB); (try unfold digitB); first | exact (decide_eq_false (by omega)).symm | exact (decide_eq_true (by omega)).symm | exact decide_eq_decide.2 (by omega)), o0⟩
 ·exact ⟨congrArg Value.bool (by (try unfold letterB); (try unfold digitB); first | exact (decide_eq_false (by omega)).symm | exact (decide_eq_true (by omega)).symm | exact decide_eq_decide.2 (by omega)), o0⟩

set_option maxRecDepth 100000 in
theorem rinner_spec (c : UInt8) (h : Heap) : SpecR Tryz.prog 89 [.int .u8 c.toNat] h fun r h' => r = .bool (innerB c) ∧ Own h [] h' := by
 unfold innerB
 refine Spec.enter Tryz.func89 rfl Tryz.ntmps89 (by kernel_rfl) ?_
 have o0 := Own.refl h
 refine CallVC.ret (rletter_spec c _) ?_
 rintro _ h1 ⟨rfl, oa⟩
 have o1 := o0.ext' oa
 cases hb : letterB c with
 | true =>
  refine Br.tt ?_
  refine RetVC.one rfl ?_
  exact ⟨rfl, o1⟩
 | false =>
  refine Br.ff ?_
  refine CallVC.ret (rdigit_spec c _) ?_
  rintro _ h2 ⟨rfl, ob⟩
  have o2 := o1.ext' ob
  cases hd : digitB c with
  | true =>
   refine Br.tt ?_
   refine RetVC.one rfl ?_
   exact ⟨rfl, o2⟩
  | false =>
   refine Br.ff ?_
   refine RetVC.one rfl ?_
   refine ⟨congrArg Value.bool ?_, o2⟩
   simp only [Bool.or_self, Bool.false_or]
   exact decide_eq_decide.2 (by omega)

set_option maxRecDepth 100000 in
theorem rgap_spec (t : List UInt8) (i : Nat) (h : Heap) (hi : i ≤ t.length) (hl : t.length ≤ 1000000) :
  SpecR Tryz.prog 42 [.string ⟨⟨t⟩⟩, .int .i64 i] h fun r h' => r = .int .i64 (gapF false (t.drop i)) ∧ Own h [] h' := by
 refine Spec.enter Tryz.func42 rfl Tryz.ntmps42 (by kernel_rfl) ?_
 have o0 := Own.refl h
 refine LoopVC.intro [4, 5, 6, 7, 8, 9, 10, 11, 12, 13, 14, 15, 16, 17, 18, 19, 20, 21, 22, 23, 24, 25, 26, 27, 28, 29, 30, 31, 32, 33, 34, 35] [5, 6] (fun vs hh => ∃ (n : Nat) (k : Bool), i + n ≤ t.length ∧ vs = [.int .i64 n, .bool k] ∧ n + gapF k (t.drop (i + n)) = gapF false (t.drop i) ∧ Own h [] hh) (fun vs _ => match vs with | [.int _ n, _] => t.length - n.toNat | _ => 0) ?_ ?_
 ·exact ⟨0, false, by omega, rfl, by simp, o0⟩
 ·rintro vs junk hh ⟨n, k, hn, rfl, ha, oh⟩
  by_cases hlt : i + n < t.length
  ·obtain ⟨c, hc⟩ := getx hlt
   have hs := gapF_step k hc
   rw [hs] at ha
   by_cases h10 : c.toNat = 10
   ·rw [if_pos h10] at ha
    refine Ar.i64 (by omega) (by omega) ?_
    refine run (lenS rfl str9 ?_)
    refine Br.dec (fun c21 => ?_) (fun hc => absurd (by omega) hc)
    refine Ar.i64 (by omega) (by omega) ?_
    refine run (strIdx rfl rfl str9 (by omega) ‹_› ?_)
    refine Br.dec (fun c23 => ?_) (fun hc => absurd (by omega) hc)
    refine Ar.i64 (by omega) (by omega) ?_
    refine ⟨rfl, ?_⟩
    exact ⟨⟨n + 1, false, by omega, rfl, by rw [← Nat.add_assoc]; omega, oh⟩, by simp; omega⟩
   ·rw [if_neg h10] at ha
    by_cases h35 : c.toNat = 35
    ·rw [if_pos h35] at ha
     refine Ar.i64 (by omega) (by omega) ?_
     refine run (lenS rfl str9 ?_)
     refine Br.dec (fun c41 => ?_) (fun hc => absurd (by omega) hc)
     refine Ar.i64 (by omega) (by omega) ?_
     refine run (strIdx rfl rfl str9 (by omega) ‹_› ?_)
     refine Br.dec (fun hc => absurd hc (by omega)) (fun c43 => ?_)
     refine Br.dec (fun c44 => ?_) (fun hc => absurd (by omega) hc)
     refine Ar.i64 (by omega) (by omega) ?_
     refine ⟨rfl, ?_⟩
     exact ⟨⟨n + 1, true, by omega, rfl, by rw [← Nat.add_assoc]; omega, oh⟩, by simp; omega⟩
    ·rw [if_neg h35] at ha
     cases k with
     | true =>
      rw [if_neg (by simp)] at ha
      refine Ar.i64 (by omega) (by omega) ?_
      refine run (lenS rfl str9 ?_)
      refine Br.dec (fun c61 => ?_) (fun hc => absurd (by omega) hc)
      refine Ar.i64 (by omega) (by omega) ?_
      refine run (strIdx rfl rfl str9 (by omega) ‹_› ?_)
      refine Br.dec (fun hc => absurd hc (by omega)) (fun c63 => ?_)
      refine Br.dec (fun hc => absurd hc (by omega)) (fun c64 => ?_)
      refine Br.ff ?_
      refine Br.ff ?_
      refine Ar.i64 (by omega) (by omega) ?_
      refine ⟨rfl, ?_⟩
      exact ⟨⟨n + 1, true, by omega, rfl, by rw [← Nat.add_assoc]; omega, oh⟩, by simp; omega⟩
     | false =>
      by_cases h32 : c.toNat = 32
      ·rw [if_neg (by omega)] at ha
       refine Ar.i64 (by omega) (by omega) ?_
       refine run (lenS rfl str9 ?_)
       refine Br.dec (fun c81 => ?_) (fun hc => absurd (by omega) hc)
       refine Ar.i64 (by omega) (by omega) ?_
       refine run (strIdx rfl rfl str9 (by omega) ‹_› ?_)
       refine Br.dec (fun hc => absurd hc (by omega)) (fun c83 => ?_)
       refine Br.dec (fun hc => absurd hc (by omega)) (fun c84 => ?_)
       refine Br.tt ?_
       refine Br.ndec (fun hc => absurd (by first | omega | assumption | decide | exact rfl) hc) (fun c85 => ?_)
       refine Br.ff ?_
       refine Ar.i64 (by omega) (by omega) ?_
       refine ⟨rfl, ?_⟩
       exact ⟨⟨n + 1, false, by omega, rfl, by rw [← Nat.add_assoc]; omega, oh⟩, by simp; omega⟩
      ·by_cases h9 : c.toNat = 9
       ·rw [if_neg (by omega)] at ha
        refine Ar.i64 (by omega) (by omega) ?_
        refine run (lenS rfl str9 ?_)
        refine Br.dec (fun c101 => ?_) (fun hc => absurd (by omega) hc)
        refine Ar.i64 (by omega) (by omega) ?_
        refine run (strIdx rfl rfl str9 (by omega) ‹_› ?_)
        refine Br.dec (fun hc => absurd hc (by omega)) (fun c103 => ?_)
        refine Br.dec (fun hc => absurd hc (by omega)) (fun c104 => ?_)
        refine Br.tt ?_
        refine Br.ndec (fun c105 => ?_) (fun hc => absurd hc (by first | omega | assumption | decide | exact rfl))
        refine Br.ndec (fun hc => absurd (by first | omega | assumption | decide | exact rfl) hc) (fun c106 => ?_)
        refine Ar.i64 (by omega) (by omega) ?_
        refine ⟨rfl, ?_⟩
        exact ⟨⟨n + 1, false, by omega, rfl, by rw [← Nat.add_assoc]; omega, oh⟩, by simp; omega⟩
       ·rw [if_pos ⟨rfl, h32, h9⟩] at ha
        refine Ar.i64 (by omega) (by omega) ?_
        refine run (lenS rfl str9 ?_)
        refine Br.dec (fun c121 => ?_) (fun hc => absurd (by omega) hc)
        refine Ar.i64 (by omega) (by omega) ?_
        refine run (strIdx rfl rfl str9 (by omega) ‹_› ?_)
        refine Br.dec (fun hc => absurd hc (by omega)) (fun c123 => ?_)
        refine Br.dec (fun hc => absurd hc (by omega)) (fun c124 => ?_)
        refine Br.tt ?_
        refine Br.ndec (fun c125 => ?_) (fun hc => absurd hc (by first | omega | assumption | decide | exact rfl))
        refine Br.ndec (fun c126 => ?_) (fun hc => absurd hc (by first | omega | assumption | decide | exact rfl))
        refine RetVC.one rfl ?_
        exact ⟨by rw [← ha]; rfl, oh⟩
  ·have : t.drop (i + n) = [] := List.drop_of_length_le (by omega)
   rw [this] at ha
   simp only [gapF, Nat.add_zero] at ha
   refine Ar.i64 (by omega) (by omega) ?_
   refine run (lenS rfl str9 ?_)
   refine Br.dec (fun hc => absurd hc (by omega)) (fun c141 => ?_)
   refine RetVC.one rfl ?_
   exact ⟨by rw [← ha], oh⟩

set_option maxRecDepth 100000 in
theorem rsymbol_spec (t : List UInt8) (i : Nat) (h : Heap) (hi : i < t.length) (hl : t.length ≤ 1000000) :
  SpecR Tryz.prog 92 [.string ⟨⟨t⟩⟩, .int .i64 i] h fun r h' => r = .int .i64 (symN (t.drop i)) ∧ Own h [] h' := by
 obtain ⟨c, hc⟩ := getx hi
 have hs : symN (t.drop i) = if (t[i + 1]? = some 61 ∧ (c = 33 ∨ c = 60)) then 2 else if c ∈ symB then 1 else 0 := by
  rw [symN_at hc]
  by_cases h1 : t[i + 1]? = some 61 ∧ (c = 33 ∨ c = 60)
  ·rw [if_pos h1, if_pos]
   rcases h1 with ⟨h1, rfl | rfl⟩
   ·exact .inl (prefix2_iff.2 ⟨hc, h1⟩)
   ·exact .inr (prefix2_iff.2 ⟨hc, h1⟩)
  ·rw [if_neg h1, if_neg]
   rintro (e | e)
   ·have e := prefix2_iff.1 e
    rw [hc] at e
    exact h1 ⟨e.2, .inl (Option.some.inj e.1)⟩
   ·have e := prefix2_iff.1 e
    rw [hc] at e
    exact h1 ⟨e.2, .inr (Option.some.inj e.1)⟩
 have toN : ∀ {a b : UInt8}, a ≠ b → a.toNat ≠ b.toNat := fun h e => h (UInt8.toNat_inj.1 e)
 refine Spec.enter Tryz.func92 rfl Tryz.ntmps92 (by kernel_rfl) ?_
 have o0 := Own.refl h
 by_cases hlt : i + 1 < t.length
 ·obtain ⟨d, hd⟩ := getx hlt
  have hd' : t[((i : Int) + 1).toNat]? = some d := by rw [show ((i : Int) + 1).toNat = i + 1 by omega]; exact hd
  rw [hd] at hs
  by_cases hd61 : d = 61
  ·subst hd61
   by_cases hc33 : c = 33
   ·subst hc33
    rw [if_pos ⟨rfl, .inl rfl⟩] at hs
    rw [hs]
    refine Ar.i64 (by omega) (by omega) ?_
    refine run (lenS rfl str9 ?_)
    refine Br.dec (fun c151 => ?_) (fun hc => absurd (by omega) hc)
    refine Ar.i64 (by omega) (by omega) ?_
    refine run (strIdx rfl rfl str9 (by omega) ‹_› ?_)
    refine Br.tt ?_
    refine run (strIdx rfl rfl str9 (by omega) ‹_› ?_)
    refine Br.tt ?_
    refine Br.tt ?_
    refine RetVC.one rfl ?_
    exact ⟨rfl, o0⟩
   ·have n33 : c.toNat ≠ 33 := toN hc33
    by_cases hc60 : c = 60
    ·subst hc60
     rw [if_pos ⟨rfl, .inr rfl⟩] at hs
     rw [hs]
     refine Ar.i64 (by omega) (by omega) ?_
     refine run (lenS rfl str9 ?_)
     refine Br.dec (fun c171 => ?_) (fun hc => absurd (by omega) hc)
     refine Ar.i64 (by omega) (by omega) ?_
     refine run (strIdx rfl rfl str9 (by omega) ‹_› ?_)
     refine Br.tt ?_
     refine run (strIdx rfl rfl str9 (by omega) ‹_› ?_)
     refine Br.ff ?_
     refine run (strIdx rfl rfl str9 (by omega) ‹_› ?_)
     refine Br.tt ?_
     refine RetVC.one rfl ?_
     exact ⟨rfl, o0⟩
    ·have n60 : c.toNat ≠ 60 := toN hc60
     rw [if_neg (by rintro ⟨_, e | e⟩; exact hc33 e; exact hc60 e)] at hs
     refine Ar.i64 (by omega) (by omega) ?_
     refine run (lenS rfl str9 ?_)
     refine Br.dec (fun c191 => ?_) (fun hc => absurd (by omega) hc)
     refine Ar.i64 (by omega) (by omega) ?_
     refine run (strIdx rfl rfl str9 (by omega) ‹_› ?_)
     refine Br.tt ?_
     refine run (strIdx rfl rfl str9 (by omega) ‹_› ?_)
     refine Br.dec (fun hc => absurd hc (by omega)) (fun c194 => ?_)
     refine run (strIdx rfl rfl str9 (by omega) ‹_› ?_)
     refine Br.dec (fun hc => absurd hc (by omega)) (fun c196 => ?_)
     refine LoopVC.intro [4, 5, 30, 31, 32, 33, 34, 35, 36, 37, 38, 39] [5] (fun vs hh => ∃ k, k ≤ 14 ∧ vs = [.int .i64 (k : Nat)] ∧ (∀ m, m < k → symB[m]? ≠ some c) ∧ Own h [] hh) (fun vs _ => match vs with | [.int _ k] => 14 - k.toNat | _ => 0) ?_ ?_
     ·exact ⟨0, by omega, rfl, by simp, o0⟩
     ·rintro vs junk hh ⟨k, hk, rfl, ha, oh⟩
      by_cases hk14 : k < 14
      ·obtain ⟨x, hx⟩ := getx (show k < symB.length from hk14)
       have hx' : symB[((k : Nat) : Int).toNat]? = some x := hx
       by_cases hxc : x = c
       ·have hm : c ∈ symB := by rw [← hxc]; exact List.mem_of_getElem? hx
        rw [if_pos hm] at hs
        rw [hs]
        subst hxc
        refine Br.dec (fun c210 => ?_) (fun hc => absurd (by omega) hc)
        refine DrawVC.intro [0, 1, 2, 3, 4, 5] [] [] [0, 1, 2, 3, 4, 5] mixed (by kernel_rfl) rfl (fun _ _ _ _ h => h) ?_
        refine strIdx rfl rfl str9 (by omega) ‹_› ?_
        refine strIdx rfl rfl str9 (by omega) ‹_› ?_
        refine Br.dec (fun c213 => ?_) (fun hc => absurd (by omega) hc)
        refine RetVC.one rfl ?_
        exact ⟨rfl, oh⟩
       ·have hne : x.toNat ≠ c.toNat := fun e => hxc (UInt8.toNat_inj.1 e)
        refine Br.dec (fun c230 => ?_) (fun hc => absurd (by omega) hc)
        refine DrawVC.intro [0, 1, 2, 3, 4, 5] [] [] [0, 1, 2, 3, 4, 5] mixed (by kernel_rfl) rfl (fun _ _ _ _ h => h) ?_
        refine strIdx rfl rfl str9 (by omega) ‹_› ?_
        refine strIdx rfl rfl str9 (by omega) ‹_› ?_
        refine Br.dec (fun hc => absurd hc (by omega)) (fun c233 => ?_)
        refine Ar.i64 (by omega) (by omega) ?_
        refine ⟨rfl, ?_⟩
        refine ⟨⟨k + 1, by omega, rfl, fun m hm e => ?_, oh⟩, by simp; omega⟩
        by_cases hmk : m = k
        ·rw [hmk, hx] at e
         exact hxc (Option.some.inj e)
        ·exact ha m (by omega) e
      ·have hm : c ∉ symB := fun hm => by
        obtain ⟨m, hml, hme⟩ := List.mem_iff_getElem.1 hm
        have : m < 14 := hml
        exact ha m (by omega) (by rw [List.getElem?_eq_getElem hml, hme])
       rw [if_neg hm] at hs
       rw [hs]
       refine Br.dec (fun hc => absurd hc (by omega)) (fun c250 => ?_)
       refine RetVC.one rfl ?_
       exact ⟨rfl, oh⟩
  ·have n61 : d.toNat ≠ 61 := toN hd61
   rw [if_neg (by rintro ⟨e, _⟩; exact hd61 (Option.some.inj e))] at hs
   refine Ar.i64 (by omega) (by omega) ?_
   refine run (lenS rfl str9 ?_)
   refine Br.dec (fun c281 => ?_) (fun hc => absurd (by omega) hc)
   refine Ar.i64 (by omega) (by omega) ?_
   refine run (strIdx rfl rfl str9 (by omega) ‹_› ?_)
   refine Br.dec (fun hc => absurd hc (by omega)) (fun c283 => ?_)
   refine Br.ff ?_
   refine LoopVC.intro [4, 5, 30, 31, 32, 33, 34, 35, 36, 37, 38, 39] [5] (fun vs hh => ∃ k, k ≤ 14 ∧ vs = [.int .i64 (k : Nat)] ∧ (∀ m, m < k → symB[m]? ≠ some c) ∧ Own h [] hh) (fun vs _ => match vs with | [.int _ k] => 14 - k.toNat | _ => 0) ?_ ?_
   ·exact ⟨0, by omega, rfl, by simp, o0⟩
   ·rintro vs junk hh ⟨k, hk, rfl, ha, oh⟩
    by_cases hk14 : k < 14
    ·obtain ⟨x, hx⟩ := getx (show k < symB.length from hk14)
     have hx' : symB[((k : Nat) : Int).toNat]? = some x := hx
     by_cases hxc : x = c
     ·have hm : c ∈ symB := by rw [← hxc]; exact List.mem_of_getElem? hx
      rw [if_pos hm] at hs
      rw [hs]
      subst hxc
      refine Br.dec (fun c300 => ?_) (fun hc => absurd (by omega) hc)
      refine DrawVC.intro [0, 1, 2, 3, 4, 5] [] [] [0, 1, 2, 3, 4, 5] mixed (by kernel_rfl) rfl (fun _ _ _ _ h => h) ?_
      refine strIdx rfl rfl str9 (by omega) ‹_› ?_
      refine strIdx rfl rfl str9 (by omega) ‹_› ?_
      refine Br.dec (fun c303 => ?_) (fun hc => absurd (by omega) hc)
      refine RetVC.one rfl ?_
      exact ⟨rfl, oh⟩
     ·have hne : x.toNat ≠ c.toNat := fun e => hxc (UInt8.toNat_inj.1 e)
      refine Br.dec (fun c320 => ?_) (fun hc => absurd (by omega) hc)
      refine DrawVC.intro [0, 1, 2, 3, 4, 5] [] [] [0, 1, 2, 3, 4, 5] mixed (by kernel_rfl) rfl (fun _ _ _ _ h => h) ?_
      refine strIdx rfl rfl str9 (by omega) ‹_› ?_
      refine strIdx rfl rfl str9 (by omega) ‹_› ?_
      refine Br.dec (fun hc => absurd hc (by omega)) (fun c323 => ?_)
      refine Ar.i64 (by omega) (by omega) ?_
      refine ⟨rfl, ?_⟩
      refine ⟨⟨k + 1, by omega, rfl, fun m hm e => ?_, oh⟩, by simp; omega⟩
      by_cases hmk : m = k
      ·rw [hmk, hx] at e
       exact hxc (Option.some.inj e)
      ·exact ha m (by omega) e
    ·have hm : c ∉ symB := fun hm => by
      obtain ⟨m, hml, hme⟩ := List.mem_iff_getElem.1 hm
      have : m < 14 := hml
      exact ha m (by omega) (by rw [List.getElem?_eq_getElem hml, hme])
     rw [if_neg hm] at hs
     rw [hs]
     refine Br.dec (fun hc => absurd hc (by omega)) (fun c340 => ?_)
     refine RetVC.one rfl ?_
     exact ⟨rfl, oh⟩
 ·rw [List.getElem?_eq_none (by omega), if_neg (by rintro ⟨e, _⟩; cases e)] at hs
  refine Ar.i64 (by omega) (by omega) ?_
  refine run (lenS rfl str9 ?_)
  refine Br.dec (fun hc => absurd hc (by omega)) (fun c381 => ?_)
  refine Br.ff ?_
  refine LoopVC.intro [4, 5, 30, 31, 32, 33, 34, 35, 36, 37, 38, 39] [5] (fun vs hh => ∃ k, k ≤ 14 ∧ vs = [.int .i64 (k : Nat)] ∧ (∀ m, m < k → symB[m]? ≠ some c) ∧ Own h [] hh) (fun vs _ => match vs with | [.int _ k] => 14 - k.toNat | _ => 0) ?_ ?_
  ·exact ⟨0, by omega, rfl, by simp, o0⟩
  ·rintro vs junk hh ⟨k, hk, rfl, ha, oh⟩
   by_cases hk14 : k < 14
   ·obtain ⟨x, hx⟩ := getx (show k < symB.length from hk14)
    have hx' : symB[((k : Nat) : Int).toNat]? = some x := hx
    by_cases hxc : x = c
    ·have hm : c ∈ symB := by rw [← hxc]; exact List.mem_of_getElem? hx
     rw [if_pos hm] at hs
     rw [hs]
     subst hxc
     refine Br.dec (fun c400 => ?_) (fun hc => absurd (by omega) hc)
     refine DrawVC.intro [0, 1, 2, 3, 4, 5] [] [] [0, 1, 2, 3, 4, 5] mixed (by kernel_rfl) rfl (fun _ _ _ _ h => h) ?_
     refine strIdx rfl rfl str9 (by omega) ‹_› ?_
     refine strIdx rfl rfl str9 (by omega) ‹_› ?_
     refine Br.dec (fun c403 => ?_) (fun hc => absurd (by omega) hc)
     refine RetVC.one rfl ?_
     exact ⟨rfl, oh⟩
    ·have hne : x.toNat ≠ c.toNat := fun e => hxc (UInt8.toNat_inj.1 e)
     refine Br.dec (fun c420 => ?_) (fun hc => absurd (by omega) hc)
     refine DrawVC.intro [0, 1, 2, 3, 4, 5] [] [] [0, 1, 2, 3, 4, 5] mixed (by kernel_rfl) rfl (fun _ _ _ _ h => h) ?_
     refine strIdx rfl rfl str9 (by omega) ‹_› ?_
     refine strIdx rfl rfl str9 (by omega) ‹_› ?_
     refine Br.dec (fun hc => absurd hc (by omega)) (fun c423 => ?_)
     refine Ar.i64 (by omega) (by omega) ?_
     refine ⟨rfl, ?_⟩
     refine ⟨⟨k + 1, by omega, rfl, fun m hm e => ?_, oh⟩, by simp; omega⟩
     by_cases hmk : m = k
     ·rw [hmk, hx] at e
      exact hxc (Option.some.inj e)
     ·exact ha m (by omega) e
   ·have hm : c ∉ symB := fun hm => by
     obtain ⟨m, hml, hme⟩ := List.mem_iff_getElem.1 hm
     have : m < 14 := hml
     exact ha m (by omega) (by rw [List.getElem?_eq_getElem hml, hme])
    rw [if_neg hm] at hs
    rw [hs]
    refine Br.dec (fun hc => absurd hc (by omega)) (fun c440 => ?_)
    refine RetVC.one rfl ?_
    exact ⟨rfl, oh⟩


end Go.Proofs.YtnmfanjhepepbaaGreatDoor

/- The reference lexer's texts in quotes, and its tokens. -/
namespace Go.Proofs.YtnmfanjhepepbaaGreatDoor
open Go StillVC

def contentV : Rd → Value
 | .tok _ x _ len => .tuple ⟨[.string ⟨⟨x⟩⟩, .int .i64 len, .int .i64 0]⟩
 | .err e => .tuple ⟨[.string ⟨⟨[]⟩⟩, .int .i64 0, .int .i64 e]⟩
 | .none => undef

set_option maxHeartbeats 4000000 in
set_option maxRecDepth 100000 in
theorem rcontent_spec (t : List UInt8) (a : Nat) (h : Heap) (ha : a < t.length) (hl : t.length ≤ 1000000) :
  SpecR Tryz.prog 91 [.string ⟨⟨t⟩⟩, .int .i64 a] h fun r h' => r = contentV (quoF (t.drop (a + 1)) [] 0) ∧ Own h [] h' := by
 have hrg : ∀ j, (t.drop (a + 1))[j]? = t[a + 1 + j]? := fun j => by rw [List.getElem?_drop]
 have hrl : (t.drop (a + 1)).length = t.length - (a + 1) := by simp
 generalize hrest : t.drop (a + 1) = rest at *
 generalize hR : quoF rest [] 0 = R
 refine Spec.enter Tryz.func91 rfl Tryz.ntmps91 (by kernel_rfl) ?_
 have o0 := Own.refl h
 have on := o0.nilRow 5 1
 refine Ar.i64 (by omega) (by omega) ?_
 refine LoopVC.intro [4, 5, 6, 7, 8, 9, 12, 13, 14, 15, 16, 17, 18, 19, 20, 21, 22, 23, 24, 25, 26, 27, 28, 29, 30, 31, 32, 33, 34, 35, 36, 37, 38, 39, 40, 41, 42, 43, 44, 45, 46, 47, 48, 49, 50, 51, 52, 53, 54, 55, 56, 57, 58, 59, 60] [7, 8] (fun vs hh => ∃ (j : Nat) (acc : List UInt8) (v : Value), a + 1 + j ≤ t.length ∧ acc.length ≤ j ∧ vs = [v, .int .i64 (a + 1 + j : Nat)] ∧ quoF (rest.drop j) acc j = R ∧ Own h [row v 5 1 acc.length (bytes acc)] hh) (fun vs _ => match vs with | [_, .int _ j] => t.length - j.toNat | _ => 0) ?_ ?_
 ·exact ⟨0, [], _, by omega, by simp, by simp, hR, on⟩
 ·rintro vs junk hh ⟨j, acc, v, hj, hal, rfl, hQ, oh⟩
  have e1 : ((a + 1 + j : Nat) : Int) + 1 = ((a + 1 + (j + 1) : Nat) : Int) := by omega
  have e2 : ((a + 1 + (j + 1) : Nat) : Int) + 1 = ((a + 1 + (j + 2) : Nat) : Int) := by omega
  by_cases hlt : a + 1 + j < t.length
  ·obtain ⟨x, hx⟩ := getx (show j < rest.length by omega)
   have hx' : t[((a + 1 + j : Nat) : Int).toNat]? = some x := by rw [Int.toNat_natCast, ← hrg]; exact hx
   by_cases hx34 : x.toNat = 34
   ·rw [quoF_quote hx hx34] at hQ
    by_cases hbig : 200 < acc.length
    ·rw [if_pos hbig] at hQ
     subst hQ
     refine run (lenS rfl str9 ?_)
     refine Br.dec (fun c41 => ?_) (fun hc => absurd (by omega) hc)
     refine run (strIdx rfl rfl str9 (by omega) ‹_› ?_)
     refine Br.dec (fun c43 => ?_) (fun hc => absurd (by omega) hc)
     refine run (lenN (oh.rowArrN 0 rfl) sl117 ?_)
     refine Br.dec (fun c45 => ?_) (fun hc => absurd (by omega) hc)
     refine RetVC.three rfl ?_
     exact ⟨rfl, Own.sel ‹_› [] rfl⟩
    ·rw [if_neg hbig] at hQ
     subst hQ
     refine run (lenS rfl str9 ?_)
     refine Br.dec (fun c61 => ?_) (fun hc => absurd (by omega) hc)
     refine run (strIdx rfl rfl str9 (by omega) ‹_› ?_)
     refine Br.dec (fun c63 => ?_) (fun hc => absurd (by omega) hc)
     refine run (lenN (oh.rowArrN 0 rfl) sl117 ?_)
     refine Br.dec (fun hc => absurd hc (by omega)) (fun c65 => ?_)
     refine run (bytesStr (oh.rowArr 0 rfl) sl117 int5 str9 ?_)
     refine Ar.i64 (by omega) (by omega) ?_
     refine Ar.i64 (by omega) (by omega) ?_
     refine RetVC.three rfl ?_
     refine ⟨?_, Own.sel ‹_› [] rfl⟩
     simp only [contentV, Value.tuple.injEq, Array.mk.injEq, List.cons.injEq, and_true, true_and, Value.int.injEq]
     omega
   ·by_cases hx10 : x.toNat = 10
    ·rw [quoF_nl hx hx10] at hQ
     subst hQ
     refine run (lenS rfl str9 ?_)
     refine Br.dec (fun c81 => ?_) (fun hc => absurd (by omega) hc)
     refine run (strIdx rfl rfl str9 (by omega) ‹_› ?_)
     refine Br.dec (fun hc => absurd hc (by omega)) (fun c83 => ?_)
     refine Br.dec (fun c84 => ?_) (fun hc => absurd (by omega) hc)
     refine RetVC.three rfl ?_
     exact ⟨rfl, Own.sel ‹_› [] rfl⟩
    ·by_cases hx92 : x.toNat = 92
     ·by_cases hlast : rest.length = j + 1
      ·rw [quoF_end hx hx92 hlast] at hQ
       subst hQ
       refine run (lenS rfl str9 ?_)
       refine Br.dec (fun c101 => ?_) (fun hc => absurd (by omega) hc)
       refine run (strIdx rfl rfl str9 (by omega) ‹_› ?_)
       refine Br.dec (fun hc => absurd hc (by omega)) (fun c103 => ?_)
       refine Br.dec (fun hc => absurd hc (by omega)) (fun c104 => ?_)
       refine Br.dec (fun c105 => ?_) (fun hc => absurd (by omega) hc)
       refine Ar.i64 (by omega) (by omega) ?_
       refine run (lenS rfl str9 ?_)
       refine Br.dec (fun c107 => ?_) (fun hc => absurd (by omega) hc)
       refine RetVC.three rfl ?_
       exact ⟨rfl, Own.sel ‹_› [] rfl⟩
      ·obtain ⟨d, hd⟩ := getx (show j + 1 < rest.length by omega)
       have hE := quoF_esc (acc := acc) hx hx92 hd
       have hd' : t[((a + 1 + j : Nat) + 1 : Int).toNat]? = some d := by rw [e1, Int.toNat_natCast, ← hrg]; exact hd
       rw [hQ] at hE
       by_cases hd34 : d.toNat = 34
       ·have hk : escB d = some d := by rw [show d = 34 from UInt8.toNat_inj.1 hd34]; rfl
        rw [hk] at hE
        refine run (lenS rfl str9 ?_)
        refine Br.dec (fun c121 => ?_) (fun hc => absurd (by omega) hc)
        refine run (strIdx rfl rfl str9 (by omega) ‹_› ?_)
        refine Br.dec (fun hc => absurd hc (by omega)) (fun c123 => ?_)
        refine Br.dec (fun hc => absurd hc (by omega)) (fun c124 => ?_)
        refine Br.dec (fun c125 => ?_) (fun hc => absurd (by omega) hc)
        refine Ar.i64 (by omega) (by omega) ?_
        refine run (lenS rfl str9 ?_)
        refine Br.dec (fun hc => absurd hc (by omega)) (fun c127 => ?_)
        refine run (strIdx rfl rfl str9 (by omega) ‹_› ?_)
        refine Br.ndec (fun hc => absurd (by first | omega | assumption | decide | exact rfl) hc) (fun c129 => ?_)
        refine Br.ff ?_
        refine Br.dec (fun hc => absurd hc (by omega)) (fun c130 => ?_)
        (refine RunVC.lit oh sl117 ty5 rfl rfl (by decide) (And.intro rfl ?_); intro b131 m131 o131)
        (refine RunVC.append o131 0 rfl sl117 ty5 (by decide) (o131.boxArr 1 rfl (by simp) (by simp)).toN (by simp [Value.oneCell']) (by simp only [maxLen]; first | omega | (simp; omega)) (by first | omega | (simp; omega)) ?_; intro v132 m132 o132)
        refine Ar.i64 (by omega) (by omega) ?_
        refine ⟨rfl, ?_⟩
        refine ⟨⟨j + 2, acc ++ [d], _, by omega, by simp; omega, by rw [e1, e2], hE.symm, ?_⟩, by simp; omega⟩
        have q := o132.sel [0] rfl
        simpa [pick, bytes] using q
       ·by_cases hd92 : d.toNat = 92
        ·have hk : escB d = some d := by rw [show d = 92 from UInt8.toNat_inj.1 hd92]; rfl
         rw [hk] at hE
         refine run (lenS rfl str9 ?_)
         refine Br.dec (fun c141 => ?_) (fun hc => absurd (by omega) hc)
         refine run (strIdx rfl rfl str9 (by omega) ‹_› ?_)
         refine Br.dec (fun hc => absurd hc (by omega)) (fun c143 => ?_)
         refine Br.dec (fun hc => absurd hc (by omega)) (fun c144 => ?_)
         refine Br.dec (fun c145 => ?_) (fun hc => absurd (by omega) hc)
         refine Ar.i64 (by omega) (by omega) ?_
         refine run (lenS rfl str9 ?_)
         refine Br.dec (fun hc => absurd hc (by omega)) (fun c147 => ?_)
         refine run (strIdx rfl rfl str9 (by omega) ‹_› ?_)
         refine Br.ndec (fun c149 => ?_) (fun hc => absurd hc (by first | omega | assumption | decide | exact rfl))
         refine Br.ndec (fun hc => absurd (by first | omega | assumption | decide | exact rfl) hc) (fun c150 => ?_)
         refine Br.ff ?_
         refine Br.dec (fun hc => absurd hc (by omega)) (fun c151 => ?_)
         (refine RunVC.lit oh sl117 ty5 rfl rfl (by decide) (And.intro rfl ?_); intro b152 m152 o152)
         (refine RunVC.append o152 0 rfl sl117 ty5 (by decide) (o152.boxArr 1 rfl (by simp) (by simp)).toN (by simp [Value.oneCell']) (by simp only [maxLen]; first | omega | (simp; omega)) (by first | omega | (simp; omega)) ?_; intro v153 m153 o153)
         refine Ar.i64 (by omega) (by omega) ?_
         refine ⟨rfl, ?_⟩
         refine ⟨⟨j + 2, acc ++ [d], _, by omega, by simp; omega, by rw [e1, e2], hE.symm, ?_⟩, by simp; omega⟩
         have q := o153.sel [0] rfl
         simpa [pick, bytes] using q
        ·by_cases hd110 : d.toNat = 110
         ·have hk : escB d = some 10 := by simp [escB, hd34, hd92, hd110]
          rw [hk] at hE
          refine run (lenS rfl str9 ?_)
          refine Br.dec (fun c161 => ?_) (fun hc => absurd (by omega) hc)
          refine run (strIdx rfl rfl str9 (by omega) ‹_› ?_)
          refine Br.dec (fun hc => absurd hc (by omega)) (fun c163 => ?_)
          refine Br.dec (fun hc => absurd hc (by omega)) (fun c164 => ?_)
          refine Br.dec (fun c165 => ?_) (fun hc => absurd (by omega) hc)
          refine Ar.i64 (by omega) (by omega) ?_
          refine run (lenS rfl str9 ?_)
          refine Br.dec (fun hc => absurd hc (by omega)) (fun c167 => ?_)
          refine run (strIdx rfl rfl str9 (by omega) ‹_› ?_)
          refine Br.ndec (fun c169 => ?_) (fun hc => absurd hc (by first | omega | assumption | decide | exact rfl))
          refine Br.ndec (fun c170 => ?_) (fun hc => absurd hc (by first | omega | assumption | decide | exact rfl))
          refine Br.ndec (fun hc => absurd (by first | omega | assumption | decide | exact rfl) hc) (fun c171 => ?_)
          refine Br.dec (fun c172 => ?_) (fun hc => absurd (by omega) hc)
          (refine RunVC.lit oh sl117 ty5 rfl rfl (by decide) (And.intro rfl ?_); intro b173 m173 o173)
          (refine RunVC.append o173 0 rfl sl117 ty5 (by decide) (o173.boxArr 1 rfl (by simp) (by simp)).toN (by simp [Value.oneCell']) (by simp only [maxLen]; first | omega | (simp; omega)) (by first | omega | (simp; omega)) ?_; intro v174 m174 o174)
          refine Ar.i64 (by omega) (by omega) ?_
          refine ⟨rfl, ?_⟩
          refine ⟨⟨j + 2, acc ++ [10], _, by omega, by simp; omega, by rw [e1, e2], hE.symm, ?_⟩, by simp; omega⟩
          have q := o174.sel [0] rfl
          simpa [pick, bytes] using q
         ·have hk : escB d = none := by simp [escB, hd34, hd92, hd110]
          rw [hk] at hE
          subst hE
          refine run (lenS rfl str9 ?_)
          refine Br.dec (fun c181 => ?_) (fun hc => absurd (by omega) hc)
          refine run (strIdx rfl rfl str9 (by omega) ‹_› ?_)
          refine Br.dec (fun hc => absurd hc (by omega)) (fun c183 => ?_)
          refine Br.dec (fun hc => absurd hc (by omega)) (fun c184 => ?_)
          refine Br.dec (fun c185 => ?_) (fun hc => absurd (by omega) hc)
          refine Ar.i64 (by omega) (by omega) ?_
          refine run (lenS rfl str9 ?_)
          refine Br.dec (fun hc => absurd hc (by omega)) (fun c187 => ?_)
          refine run (strIdx rfl rfl str9 (by omega) ‹_› ?_)
          refine Br.ndec (fun c189 => ?_) (fun hc => absurd hc (by first | omega | assumption | decide | exact rfl))
          refine Br.ndec (fun c190 => ?_) (fun hc => absurd hc (by first | omega | assumption | decide | exact rfl))
          refine Br.ndec (fun c191 => ?_) (fun hc => absurd hc (by first | omega | assumption | decide | exact rfl))
          refine RetVC.three rfl ?_
          exact ⟨rfl, Own.sel ‹_› [] rfl⟩
     ·rw [quoF_other hx hx34 hx10 hx92] at hQ
      refine run (lenS rfl str9 ?_)
      refine Br.dec (fun c201 => ?_) (fun hc => absurd (by omega) hc)
      refine run (strIdx rfl rfl str9 (by omega) ‹_› ?_)
      refine Br.dec (fun hc => absurd hc (by omega)) (fun c203 => ?_)
      refine Br.dec (fun hc => absurd hc (by omega)) (fun c204 => ?_)
      refine Br.dec (fun hc => absurd hc (by omega)) (fun c205 => ?_)
      (refine RunVC.lit oh sl117 ty5 rfl rfl (by decide) (And.intro rfl ?_); intro b206 m206 o206)
      (refine RunVC.append o206 0 rfl sl117 ty5 (by decide) (o206.boxArr 1 rfl (by simp) (by simp)).toN (by simp [Value.oneCell']) (by simp only [maxLen]; first | omega | (simp; omega)) (by first | omega | (simp; omega)) ?_; intro v207 m207 o207)
      refine Ar.i64 (by omega) (by omega) ?_
      refine ⟨rfl, ?_⟩
      refine ⟨⟨j + 1, acc ++ [x], _, by omega, by simp; omega, by rw [e1], hQ, ?_⟩, by simp; omega⟩
      have q := o207.sel [0] rfl
      simpa [pick, bytes] using q
  ·have : rest.drop j = [] := List.drop_of_length_le (by omega)
   rw [this] at hQ
   subst hQ
   refine run (lenS rfl str9 ?_)
   refine Br.dec (fun hc => absurd hc (by omega)) (fun c221 => ?_)
   refine RetVC.three rfl ?_
   exact ⟨rfl, Own.sel ‹_› [] rfl⟩

/- WHICH READER FINDS SOMETHING -/
def tokenV (i : Nat) : Rd → Value
 | .tok k x n len => .tuple ⟨[tokV k x n i, .int .i64 len, .int .i64 0]⟩
 | .err e => .tuple ⟨[tokV 0 [] 0 0, .int .i64 0, .int .i64 e]⟩
 | .none => undef

set_option maxHeartbeats 4000000 in
set_option maxRecDepth 100000 in
theorem rtoken_spec (t : List UInt8) (i : Nat) (h : Heap) (hi : i < t.length) (hl : t.length ≤ 1000000) :
  SpecR Tryz.prog 43 [.string ⟨⟨t⟩⟩, .int .i64 i] h fun r h' => r = tokenV i (readR (t.drop i)) ∧ Own h [] h' := by
 obtain ⟨c, hc⟩ := getx hi
 have hdc : t.drop i = c :: t.drop (i + 1) := by
  obtain ⟨hj, rfl⟩ := List.getElem?_eq_some_iff.1 hc
  exact List.drop_eq_getElem_cons hj
 have hdl : (t.drop i).length = t.length - i := by simp
 have hg : ∀ j, (t.drop i)[j]? = t[i + j]? := fun j => by rw [List.getElem?_drop]
 refine Spec.enter Tryz.func43 rfl Tryz.ntmps43 (by kernel_rfl) ?_
 have o0 := Own.refl h
 (refine RunVC.alloc o0 ty38 ?_; intro b10 m10 o10)
 refine run (strIdx rfl rfl str9 (by omega) ‹_› ?_)
 refine CallVC.ret (rletter_spec c _) ?_
 rintro _ h1 ⟨rfl, oa⟩
 have o1 := oa.thenE ‹_›
 cases hlet : letterB c with
 | true =>
  have hR := readR_letter (r := t.drop (i + 1)) hlet
  rw [← hdc] at hR
  rw [hR]
  refine Br.tt ?_
  refine LoopVC.intro [8, 18, 19, 20, 21, 22, 23, 24, 25, 26, 27, 28, 29, 30, 31, 32, 33] [8] (fun vs hh => ∃ (n : Nat), 1 ≤ n ∧ i + n ≤ t.length ∧ vs = [.int .i64 n] ∧ (∀ d ∈ (t.drop i).take n, innerB d = true) ∧ Own h [box b10 [.int .i64 0, .string ⟨⟨[]⟩⟩, .int .i64 0, .int .i64 0] 38] hh) (fun vs _ => match vs with | [.int _ n] => t.length - n.toNat | _ => 0) ?_ ?_
  ·refine ⟨1, by omega, by omega, rfl, fun d hd => ?_, o1⟩
   rw [hdc] at hd
   simp only [List.take_succ_cons, List.take_zero, List.mem_singleton] at hd
   subst hd
   simp [innerB, hlet]
  ·rintro vs junk hh ⟨n, hn1, hn, rfl, ha, oh⟩
   by_cases hlt : i + n < t.length
   ·obtain ⟨d, hd⟩ := getx hlt
    have hd' : (t.drop i)[n]? = some d := by rw [hg]; exact hd
    refine Ar.i64 (by omega) (by omega) ?_
    refine run (lenS rfl str9 ?_)
    refine Br.dec (fun c41 => ?_) (fun hc => absurd (by omega) hc)
    refine Ar.i64 (by omega) (by omega) ?_
    refine run (strIdx rfl rfl str9 (by omega) ‹_› ?_)
    refine CallVC.ret (rinner_spec d _) ?_
    rintro _ h2 ⟨rfl, ob⟩
    have o2 := oh.ext' ob
    cases hb : innerB d with
    | true =>
     refine Br.tt ?_
     refine Ar.i64 (by omega) (by omega) ?_
     refine ⟨rfl, ?_⟩
     refine ⟨⟨n + 1, by omega, by omega, rfl, fun e he => ?_, o2⟩, by simp; omega⟩
     rw [List.take_add_one, hd'] at he
     rcases List.mem_append.1 he with he | he
     ·exact ha e he
     ·simp at he; subst he; exact hb
    | false =>
     have hsp : spanN innerB (t.drop i) = n := spanN_end ha (by omega) (fun e he => by rw [hd'] at he; cases he; exact hb)
     rw [hsp]
     by_cases hbig : 24 < n
     ·rw [if_pos hbig]
      refine Br.ff ?_
      refine Br.dec (fun c60 => ?_) (fun hc => absurd (by omega) hc)
      refine run (buildK st38 ?_)
      (refine RunVC.storeL o2 0 rfl ty38 rfl (by decide) (And.intro ⟨rfl, rfl⟩ ?_); intro m62 o62)
      first | refine RetVC.cell2 rfl o62 0 rfl ty38 rfl rfl ?_ | refine RetVC.cell1 rfl o62 0 rfl ty38 rfl rfl ?_ | refine RetVC.cellTT rfl o62 0 rfl ty38 rfl rfl ?_
      exact ⟨rfl, Own.sel ‹_› [] rfl⟩
     ·rw [if_neg hbig]
      refine Br.ff ?_
      refine Br.dec (fun hc => absurd hc (by omega)) (fun c70 => ?_)
      refine Ar.i64 (by omega) (by omega) ?_
      refine run (sliceS str9 rfl ⟨_, rfl⟩ ⟨_, rfl⟩ (by omega) (by omega) (by omega) ?_)
      refine run (buildK st38 ?_)
      refine And.intro rfl ?_
      refine And.intro rfl ?_
      refine And.intro rfl ?_
      (refine RunVC.storeL o2 0 rfl ty38 rfl (by decide) (And.intro ⟨rfl, rfl⟩ ?_); intro m73 o73)
      first | refine RetVC.cell2 rfl o73 0 rfl ty38 rfl rfl ?_ | refine RetVC.cell1 rfl o73 0 rfl ty38 rfl rfl ?_ | refine RetVC.cellTT rfl o73 0 rfl ty38 rfl rfl ?_
      refine ⟨?_, Own.sel ‹_› [] rfl⟩
      rw [← slice_at]
      rfl
   ·have hsp : spanN innerB (t.drop i) = n := spanN_end ha (by omega) (fun e he => by
     obtain ⟨he', _⟩ := List.getElem?_eq_some_iff.1 he
     omega)
    rw [hsp]
    by_cases hbig : 24 < n
    ·rw [if_pos hbig]
     refine Ar.i64 (by omega) (by omega) ?_
     refine run (lenS rfl str9 ?_)
     refine Br.dec (fun hc => absurd hc (by omega)) (fun c91 => ?_)
     refine Br.ff ?_
     refine Br.dec (fun c92 => ?_) (fun hc => absurd (by omega) hc)
     refine run (buildK st38 ?_)
     (refine RunVC.storeL oh 0 rfl ty38 rfl (by decide) (And.intro ⟨rfl, rfl⟩ ?_); intro m94 o94)
     first | refine RetVC.cell2 rfl o94 0 rfl ty38 rfl rfl ?_ | refine RetVC.cell1 rfl o94 0 rfl ty38 rfl rfl ?_ | refine RetVC.cellTT rfl o94 0 rfl ty38 rfl rfl ?_
     exact ⟨rfl, Own.sel ‹_› [] rfl⟩
    ·rw [if_neg hbig]
     refine Ar.i64 (by omega) (by omega) ?_
     refine run (lenS rfl str9 ?_)
     refine Br.dec (fun hc => absurd hc (by omega)) (fun c101 => ?_)
     refine Br.ff ?_
     refine Br.dec (fun hc => absurd hc (by omega)) (fun c102 => ?_)
     refine Ar.i64 (by omega) (by omega) ?_
     refine run (sliceS str9 rfl ⟨_, rfl⟩ ⟨_, rfl⟩ (by omega) (by omega) (by omega) ?_)
     refine run (buildK st38 ?_)
     refine And.intro rfl ?_
     refine And.intro rfl ?_
     refine And.intro rfl ?_
     (refine RunVC.storeL oh 0 rfl ty38 rfl (by decide) (And.intro ⟨rfl, rfl⟩ ?_); intro m105 o105)
     first | refine RetVC.cell2 rfl o105 0 rfl ty38 rfl rfl ?_ | refine RetVC.cell1 rfl o105 0 rfl ty38 rfl rfl ?_ | refine RetVC.cellTT rfl o105 0 rfl ty38 rfl rfl ?_
     refine ⟨?_, Own.sel ‹_› [] rfl⟩
     rw [← slice_at]
     rfl
 | false =>
  refine Br.ff ?_
  refine CallVC.ret (rdigit_spec c _) ?_
  rintro _ h2 ⟨rfl, ob⟩
  have o2 := ob.thenE ‹_›
  cases hdig : digitB c with
  | true =>
   have hR := readR_digit (r := t.drop (i + 1)) hlet hdig
   rw [← hdc] at hR
   rw [hR]
   have hd9 := digitB_iff hdig
   refine Br.tt ?_
   refine Ar.u8 (by omega) (by omega) ?_
   refine run (convI rfl int5 int3 ?_)
   refine Ar.i64 (by omega) (by omega) ?_
   refine LoopVC.intro [8, 9, 51, 52, 53, 54, 55, 56, 57, 58, 59, 60, 61, 62, 63, 64, 65, 66, 67, 68, 69, 70, 71, 72, 73, 74, 75, 76, 77, 78] [8, 9] (fun vs hh => ∃ (n : Nat), 1 ≤ n ∧ i + n ≤ t.length ∧ vs = [.int .i64 n, .int .i64 (undec ((t.drop i).take (min n 10)))] ∧ (∀ d ∈ (t.drop i).take n, digitB d = true) ∧ Own h [box b10 [.int .i64 0, .string ⟨⟨[]⟩⟩, .int .i64 0, .int .i64 0] 38] hh) (fun vs _ => match vs with | [.int _ n, _] => t.length - n.toNat | _ => 0) ?_ ?_
   ·refine ⟨1, by omega, by omega, ?_, fun d hd => ?_, o2⟩
    ·rw [hdc]
     simp only [List.take_succ_cons, Nat.min_def, if_true, show (1 : Nat) ≤ 10 by omega, List.take_zero, List.cons.injEq, and_true, true_and, Value.int.injEq]
     simp [undec]
     omega
    ·rw [hdc] at hd
     simp only [List.take_succ_cons, List.take_zero, List.mem_singleton] at hd
     subst hd
     exact hdig
   ·rintro vs junk hh ⟨n, hn1, hn, rfl, ha, oh⟩
    have hub := undec_lt ((t.drop i).take (min n 10)) (fun d hd => ha d ((List.take_subset_take_left _ (Nat.min_le_left n 10)) hd))
    have hub2 : undec ((t.drop i).take (min n 10)) < 10 ^ 10 := Nat.lt_of_lt_of_le hub (Nat.pow_le_pow_right (by omega) (by simp; omega))
    have hmin : n ≤ 10 → (t.drop i).take (min n 10) = (t.drop i).take n := fun h => by rw [Nat.min_eq_left h]
    by_cases hlt : i + n < t.length
    ·obtain ⟨d, hd⟩ := getx hlt
     have hd' : (t.drop i)[n]? = some d := by rw [hg]; exact hd
     have htk : (t.drop i).take (n + 1) = (t.drop i).take n ++ [d] := by rw [List.take_add_one, hd']; rfl
     refine Ar.i64 (by omega) (by omega) ?_
     refine run (lenS rfl str9 ?_)
     refine Br.dec (fun c161 => ?_) (fun hc => absurd (by omega) hc)
     refine Ar.i64 (by omega) (by omega) ?_
     refine run (strIdx rfl rfl str9 (by omega) ‹_› ?_)
     refine CallVC.ret (rdigit_spec d _) ?_
     rintro _ h3 ⟨rfl, oc⟩
     have o3 := oh.ext' oc
     cases hb : digitB d with
     | true =>
      have hd9' := digitB_iff hb
      have hall : ∀ e ∈ (t.drop i).take (n + 1), digitB e = true := fun e he => by
       rw [htk] at he
       rcases List.mem_append.1 he with he | he
       ·exact ha e he
       ·simp at he; subst he; exact hb
      by_cases h10 : n < 10
      ·have hu := undec_snoc ((t.drop i).take n) d
       rw [← htk] at hu
       rw [hmin (by omega)] at hub2 ⊢
       refine Br.tt ?_
       refine Br.dec (fun c170 => ?_) (fun hc => absurd (by omega) hc)
       refine Ar.i64 (by omega) (by omega) ?_
       refine Ar.i64 (by omega) (by omega) ?_
       refine run (strIdx rfl rfl str9 (by omega) ‹_› ?_)
       refine Ar.u8 (by omega) (by omega) ?_
       refine run (convI rfl int5 int3 ?_)
       refine Ar.i64 (by omega) (by omega) ?_
       refine Ar.i64 (by omega) (by omega) ?_
       refine Ar.i64 (by omega) (by omega) ?_
       refine ⟨rfl, ?_⟩
       refine ⟨⟨n + 1, by omega, by omega, ?_, hall, o3⟩, by simp; omega⟩
       rw [Nat.min_eq_left (by omega), hu]
       simp only [List.cons.injEq, and_true, Value.int.injEq, true_and]
       omega
      ·refine Br.tt ?_
       refine Br.dec (fun hc => absurd hc (by omega)) (fun c190 => ?_)
       refine Ar.i64 (by omega) (by omega) ?_
       refine ⟨rfl, ?_⟩
       refine ⟨⟨n + 1, by omega, by omega, ?_, hall, o3⟩, by simp; omega⟩
       rw [Nat.min_eq_right (by omega), Nat.min_eq_right (by omega)]
       rfl
     | false =>
      have hsp : spanN digitB (t.drop i) = n := spanN_end ha (by omega) (fun e he => by rw [hd'] at he; cases he; exact hb)
      have hin := span_lt (p := digitB) (q := innerB) (fun c h => digit_inner h) (t.drop i)
      rw [hsp] at hin ⊢
      by_cases h10 : 10 < n
      ·rw [if_pos (.inl h10)]
       refine Br.ff ?_
       refine Br.dec (fun c200 => ?_) (fun hc => absurd (by omega) hc)
       refine Br.tt ?_
       refine run (buildK st38 ?_)
       (refine RunVC.storeL o3 0 rfl ty38 rfl (by decide) (And.intro ⟨rfl, rfl⟩ ?_); intro m202 o202)
       first | refine RetVC.cell2 rfl o202 0 rfl ty38 rfl rfl ?_ | refine RetVC.cell1 rfl o202 0 rfl ty38 rfl rfl ?_ | refine RetVC.cellTT rfl o202 0 rfl ty38 rfl rfl ?_
       exact ⟨rfl, Own.sel ‹_› [] rfl⟩
      ·refine Br.ff ?_
       refine Br.dec (fun hc => absurd hc (by omega)) (fun c210 => ?_)
       refine Ar.i64 (by omega) (by omega) ?_
       refine run (lenS rfl str9 ?_)
       refine Br.dec (fun c212 => ?_) (fun hc => absurd (by omega) hc)
       refine Ar.i64 (by omega) (by omega) ?_
       refine run (strIdx rfl rfl str9 (by omega) ‹_› ?_)
       refine CallVC.ret (rinner_spec d _) ?_
       rintro _ h4 ⟨rfl, od⟩
       have o4 := o3.ext' od
       cases hi2 : innerB d with
       | true =>
        rw [if_pos (.inr (hin.2 ⟨d, hd', hi2⟩))]
        refine Br.tt ?_
        refine run (buildK st38 ?_)
        (refine RunVC.storeL o4 0 rfl ty38 rfl (by decide) (And.intro ⟨rfl, rfl⟩ ?_); intro m221 o221)
        first | refine RetVC.cell2 rfl o221 0 rfl ty38 rfl rfl ?_ | refine RetVC.cell1 rfl o221 0 rfl ty38 rfl rfl ?_ | refine RetVC.cellTT rfl o221 0 rfl ty38 rfl rfl ?_
        exact ⟨rfl, Own.sel ‹_› [] rfl⟩
       | false =>
        rw [if_neg (by rintro (h | h); exact h10 h; obtain ⟨e, he, hie⟩ := hin.1 h; rw [hd'] at he; cases he; rw [hi2] at hie; cases hie)]
        rw [hmin (by omega)]
        refine Br.ff ?_
        refine Ar.i64 (by omega) (by omega) ?_
        refine run (sliceS str9 rfl ⟨_, rfl⟩ ⟨_, rfl⟩ (by omega) (by omega) (by omega) ?_)
        refine run (buildK st38 ?_)
        refine And.intro rfl ?_
        refine And.intro rfl ?_
        refine And.intro rfl ?_
        refine And.intro rfl ?_
        (refine RunVC.storeL o4 0 rfl ty38 rfl (by decide) (And.intro ⟨rfl, rfl⟩ ?_); intro m232 o232)
        first | refine RetVC.cell2 rfl o232 0 rfl ty38 rfl rfl ?_ | refine RetVC.cell1 rfl o232 0 rfl ty38 rfl rfl ?_ | refine RetVC.cellTT rfl o232 0 rfl ty38 rfl rfl ?_
        refine ⟨?_, Own.sel ‹_› [] rfl⟩
        rw [← slice_at]
        rfl
    ·have hsp : spanN digitB (t.drop i) = n := spanN_end ha (by omega) (fun e he => by
      obtain ⟨he', _⟩ := List.getElem?_eq_some_iff.1 he
      omega)
     have hin := span_lt (p := digitB) (q := innerB) (fun c h => digit_inner h) (t.drop i)
     rw [hsp] at hin ⊢
     by_cases h10 : 10 < n
     ·rw [if_pos (.inl h10)]
      refine Ar.i64 (by omega) (by omega) ?_
      refine run (lenS rfl str9 ?_)
      refine Br.dec (fun hc => absurd hc (by omega)) (fun c241 => ?_)
      refine Br.ff ?_
      refine Br.dec (fun c242 => ?_) (fun hc => absurd (by omega) hc)
      refine Br.tt ?_
      refine run (buildK st38 ?_)
      (refine RunVC.storeL oh 0 rfl ty38 rfl (by decide) (And.intro ⟨rfl, rfl⟩ ?_); intro m244 o244)
      first | refine RetVC.cell2 rfl o244 0 rfl ty38 rfl rfl ?_ | refine RetVC.cell1 rfl o244 0 rfl ty38 rfl rfl ?_ | refine RetVC.cellTT rfl o244 0 rfl ty38 rfl rfl ?_
      exact ⟨rfl, Own.sel ‹_› [] rfl⟩
     ·rw [if_neg (by rintro (h | h); exact h10 h; obtain ⟨e, he, _⟩ := hin.1 h; obtain ⟨he', _⟩ := List.getElem?_eq_some_iff.1 he; omega)]
      rw [hmin (by omega)]
      refine Ar.i64 (by omega) (by omega) ?_
      refine run (lenS rfl str9 ?_)
      refine Br.dec (fun hc => absurd hc (by omega)) (fun c401 => ?_)
      refine Br.ff ?_
      refine Br.dec (fun hc => absurd hc (by omega)) (fun c402 => ?_)
      refine Ar.i64 (by omega) (by omega) ?_
      refine run (lenS rfl str9 ?_)
      refine Br.dec (fun hc => absurd hc (by omega)) (fun c404 => ?_)
      refine Br.ff ?_
      refine Ar.i64 (by omega) (by omega) ?_
      refine run (sliceS str9 rfl ⟨_, rfl⟩ ⟨_, rfl⟩ (by omega) (by omega) (by omega) ?_)
      refine run (buildK st38 ?_)
      refine And.intro rfl ?_
      refine And.intro rfl ?_
      refine And.intro rfl ?_
      refine And.intro rfl ?_
      (refine RunVC.storeL oh 0 rfl ty38 rfl (by decide) (And.intro ⟨rfl, rfl⟩ ?_); intro m407 o407)
      first | refine RetVC.cell2 rfl o407 0 rfl ty38 rfl rfl ?_ | refine RetVC.cell1 rfl o407 0 rfl ty38 rfl rfl ?_ | refine RetVC.cellTT rfl o407 0 rfl ty38 rfl rfl ?_
      refine ⟨?_, Own.sel ‹_› [] rfl⟩
      rw [← slice_at]
      rfl
  | false =>
   by_cases h34 : c.toNat = 34
   ·have hR := readR_quote (r := t.drop (i + 1)) hlet hdig h34
    rw [← hdc] at hR
    rw [hR]
    refine Br.ff ?_
    refine Br.dec (fun c250 => ?_) (fun hc => absurd (by omega) hc)
    refine CallVC.ret (rcontent_spec t i _ hi hl) ?_
    rintro _ h3 ⟨rfl, oc⟩
    have o3 := oc.thenE ‹_›
    cases hq : quoF (t.drop (i + 1)) [] 0 with
    | none => exact absurd hq (quoF_some _ _ _)
    | err e =>
     have he := quoF_err _ _ _ hq
     refine Br.ndec (fun c270 => ?_) (fun hc => absurd hc (by first | omega | assumption | decide | exact rfl))
     refine run (buildK st38 ?_)
     (refine RunVC.storeL o3 0 rfl ty38 rfl (by decide) (And.intro ⟨rfl, rfl⟩ ?_); intro m272 o272)
     first | refine RetVC.cell2 rfl o272 0 rfl ty38 rfl rfl ?_ | refine RetVC.cell1 rfl o272 0 rfl ty38 rfl rfl ?_ | refine RetVC.cellTT rfl o272 0 rfl ty38 rfl rfl ?_
     exact ⟨rfl, Own.sel ‹_› [] rfl⟩
    | tok k x n len =>
     obtain ⟨rfl, rfl⟩ := quoF_tok _ _ _ hq
     refine Br.ff ?_
     refine run (buildK st38 ?_)
     refine And.intro rfl ?_
     refine And.intro rfl ?_
     refine And.intro rfl ?_
     (refine RunVC.storeL o3 0 rfl ty38 rfl (by decide) (And.intro ⟨rfl, rfl⟩ ?_); intro m291 o291)
     first | refine RetVC.cell2 rfl o291 0 rfl ty38 rfl rfl ?_ | refine RetVC.cell1 rfl o291 0 rfl ty38 rfl rfl ?_ | refine RetVC.cellTT rfl o291 0 rfl ty38 rfl rfl ?_
     exact ⟨rfl, Own.sel ‹_› [] rfl⟩
   ·have hR := readR_symbol (r := t.drop (i + 1)) hlet hdig h34
    rw [← hdc] at hR
    rw [hR]
    refine Br.ff ?_
    refine Br.dec (fun hc => absurd hc (by omega)) (fun c320 => ?_)
    refine CallVC.ret (rsymbol_spec t i _ hi hl) ?_
    rintro _ h3 ⟨rfl, oc⟩
    have o3 := oc.thenE ‹_›
    by_cases hz : symN (t.drop i) = 0
    ·rw [if_pos hz, hz]
     refine Br.tt ?_
     refine run (buildK st38 ?_)
     (refine RunVC.storeL o3 0 rfl ty38 rfl (by decide) (And.intro ⟨rfl, rfl⟩ ?_); intro m341 o341)
     first | refine RetVC.cell2 rfl o341 0 rfl ty38 rfl rfl ?_ | refine RetVC.cell1 rfl o341 0 rfl ty38 rfl rfl ?_ | refine RetVC.cellTT rfl o341 0 rfl ty38 rfl rfl ?_
     exact ⟨rfl, Own.sel ‹_› [] rfl⟩
    ·rw [if_neg hz] at hR ⊢
     have hsl := (readR_len hR).2
     have e : List.drop (i : Int).toNat (List.take ((i : Int) + (symN (t.drop i) : Nat)).toNat t) = (t.drop i).take (symN (t.drop i)) := by
      rw [show ((i : Int) + (symN (t.drop i) : Nat)).toNat = i + symN (t.drop i) by omega, Int.toNat_natCast, List.drop_take]
      congr 1
      omega
     refine Br.dec (fun hc => absurd hc (by omega)) (fun c360 => ?_)
     refine Ar.i64 (by omega) (by omega) ?_
     refine run (sliceS str9 rfl ⟨_, rfl⟩ ⟨_, rfl⟩ (by omega) (by omega) (by omega) ?_)
     refine run (buildK st38 ?_)
     refine And.intro rfl ?_
     refine And.intro rfl ?_
     refine And.intro rfl ?_
     (refine RunVC.storeL o3 0 rfl ty38 rfl (by decide) (And.intro ⟨rfl, rfl⟩ ?_); intro m363 o363)
     first | refine RetVC.cell2 rfl o363 0 rfl ty38 rfl rfl ?_ | refine RetVC.cell1 rfl o363 0 rfl ty38 rfl rfl ?_ | refine RetVC.cellTT rfl o363 0 rfl ty38 rfl rfl ?_
     refine ⟨?_, Own.sel ‹_› [] rfl⟩
     rw [← e]
     rfl


end Go.Proofs.YtnmfanjhepepbaaGreatDoor

/- The reference lexer; lists of tokens that are compared. -/
namespace Go.Proofs.YtnmfanjhepepbaaGreatDoor
open Go StillVC

set_option maxHeartbeats 4000000 in
set_option maxRecDepth 100000 in
theorem rlex_spec (t : List UInt8) (h : Heap) (hl : t.length ≤ 9223372036854775807) :
  SpecR Tryz.prog 17 [.string ⟨⟨t⟩⟩] h (LexPost h t) := by
 refine Spec.enter Tryz.func17 rfl Tryz.ntmps17 (by kernel_rfl) ?_
 have o0 := Own.refl h
 by_cases hbig : 20000 < t.length
 ·refine run (lenS rfl str9 ?_)
  refine Br.dec (fun c11 => ?_) (fun hc => absurd (by omega) hc)
  refine RetVC.three rfl ?_
  show LexPost h t _ _
  rw [LexPost, if_pos hbig]
  exact ⟨rfl, o0⟩
 ·have hP : ∀ v h', LexPost h t v h' = _ := fun v h' => by rw [LexPost, if_neg hbig]
  refine run (lenS rfl str9 ?_)
  refine Br.dec (fun hc => absurd hc (by omega)) (fun c21 => ?_)
  refine CallVC.ret (rgap_spec t 0 _ (by omega) (by omega)) ?_
  rintro _ h1 ⟨rfl, oa⟩
  have o1 := o0.ext' oa
  have hgle := gapF_le false t
  rw [List.drop_zero]
  generalize hT : lexM t = T at hP
  have hT0 : consR [] (lexGo (t.length) (t.drop (gapF false t)) (gapF false t) 0) = T := by
   rw [← hT, lexM]
   cases lexGo t.length (t.drop (gapF false t)) (gapF false t) 0 <;> rfl
  have on := o1.nilRow 38 4
  refine LoopVC.intro [2, 3, 4, 5, 6, 7, 8, 9, 15, 16, 17, 18, 19, 20, 21, 22, 23, 24, 25, 26, 27, 28, 29, 30, 31, 32, 33, 34, 35, 36, 37, 38, 39, 40, 41, 42, 43, 44, 45] [5, 6] (fun vs hh => ∃ (f j : Nat) (acc : List Tok) (v : Value), j ≤ t.length ∧ t.length ≤ j + f ∧ acc.length ≤ j ∧ acc.length ≤ 5000 ∧ vs = [v, .int .i64 j] ∧ consR acc (lexGo f (t.drop j) j acc.length) = T ∧ Own h [row v 38 4 acc.length (acc.flatMap tokC)] hh) (fun vs _ => match vs with | [_, .int _ j] => t.length - j.toNat | _ => 0) ?_ ?_
  ·exact ⟨t.length, gapF false t, [], _, hgle, by omega, by simp, by simp, rfl, hT0, on⟩
  ·rintro vs junk hh ⟨f, j, acc, v, hj, hf, haj, hac, rfl, hQ, oh⟩
   obtain ⟨va, vc, rfl⟩ := oh.rowIs 0 rfl
   by_cases hlt : j < t.length
   ·have hdn : t.drop j ≠ [] := fun e => by have := congrArg List.length e; simp at this; omega
    obtain ⟨f, rfl⟩ : ∃ f', f = f' + 1 := ⟨f - 1, by omega⟩
    refine run (lenS rfl str9 ?_)
    refine Br.dec (fun c41 => ?_) (fun hc => absurd (by omega) hc)
    refine CallVC.ret (rtoken_spec t j _ hlt (by omega)) ?_
    rintro _ h2 ⟨rfl, ob⟩
    have o2 := oh.ext' ob
    cases hR : readR (t.drop j) with
    | none => exact absurd hR (readR_some _)
    | err e =>
     have he := readR_err hR
     rw [lexGo_err hdn hR] at hQ
     (refine RunVC.alloc o2 ty38 ?_; intro b50 m50 o50)
     (refine RunVC.storeL o50 1 rfl ty38 rfl (by decide) (And.intro ⟨rfl, rfl⟩ ?_); intro m51 o51)
     refine Br.ndec (fun c52 => ?_) (fun hc => absurd hc (by first | omega | assumption | decide | exact rfl))
     refine RetVC.three rfl ?_
     show LexPost h t _ _
     rw [hP, ← hQ]
     exact ⟨rfl, Own.sel ‹_› [] rfl⟩
    | tok k x n len =>
     obtain ⟨hl1, hl2⟩ := readR_len hR
     rw [List.length_drop] at hl2
     by_cases hfull : acc.length = 5000
     ·rw [hfull, lexGo_full hdn hR] at hQ
      (refine RunVC.alloc o2 ty38 ?_; intro b70 m70 o70)
      (refine RunVC.storeL o70 1 rfl ty38 rfl (by decide) (And.intro ⟨rfl, rfl⟩ ?_); intro m71 o71)
      refine Br.ff ?_
      refine run (lenV rfl sl31 ?_)
      refine Br.dec (fun c73 => ?_) (fun hc => absurd (by omega) hc)
      refine RetVC.three rfl ?_
      show LexPost h t _ _
      rw [hP, ← hQ]
      exact ⟨rfl, Own.sel ‹_› [] rfl⟩
     ·rw [lexGo_tok hdn hR hfull] at hQ
      (refine RunVC.alloc o2 ty38 ?_; intro b100 m100 o100)
      (refine RunVC.storeL o100 1 rfl ty38 rfl (by decide) (And.intro ⟨rfl, rfl⟩ ?_); intro m101 o101)
      refine Br.ff ?_
      refine run (lenV rfl sl31 ?_)
      refine Br.dec (fun hc => absurd hc (by omega)) (fun c103 => ?_)
      refine run (loadON o101 1 rfl ty38 rfl rfl rfl ?_)
      (refine RunVC.litN o101 sl31 ty38 rfl rfl (by decide) ?_)
      refine And.intro rfl ?_
      intro b106 m106 o106
      refine RunVC.append ‹_› 0 rfl sl31 ty38 (by decide) (Own.boxArrN ‹_› 2 rfl (n := 1) rfl (by omega)) (by simp [Value.oneCell']) (by simp only [maxLen]; omega) (by omega) ?_
      intro v155 m155 o155
      obtain ⟨ua, uc, rfl⟩ := o155.rowIs 0 rfl
      refine Ar.i64 (by omega) (by omega) ?_
      refine CallVC.ret (rgap_spec t (j + len) _ (by omega) (by omega)) ?_
      rintro _ h3 ⟨rfl, oc⟩
      have o3 := o155.ext' oc
      have hgl := gapF_le false (t.drop (j + len))
      rw [List.length_drop] at hgl
      simp only [List.drop_drop] at hQ
      generalize gapF false (t.drop (j + len)) = gg at *
      refine Ar.i64 (by omega) (by omega) ?_
      refine ⟨rfl, ?_⟩
      refine ⟨⟨f, j + len + gg, acc ++ [⟨k, x, n, j⟩], .slice ua (acc.length + 1) uc, by omega, by omega, by simp; omega, by simp; omega, rfl, ?_, ?_⟩, ?_⟩
      ·rw [← hQ, List.length_append]
       simp only [List.length_cons, List.length_nil, Nat.zero_add, Nat.add_assoc]
      ·have e1 : (acc ++ [(⟨k, x, n, j⟩ : Tok)]).length = acc.length + 1 := by simp
       have e2 : (acc ++ [(⟨k, x, n, j⟩ : Tok)]).flatMap tokC = acc.flatMap tokC ++ tokC ⟨k, x, n, j⟩ := by simp
       rw [e1, e2]
       have q := o3.sel [0] rfl
       simpa [pick, tokC] using q
      ·simp
       omega
   ·have hd : t.drop j = [] := List.drop_of_length_le (by omega)
    rw [hd, lexGo_nil] at hQ
    simp only [consR, List.append_nil] at hQ
    refine run (lenS rfl str9 ?_)
    refine Br.dec (fun hc => absurd hc (by omega)) (fun c181 => ?_)
    refine RetVC.three rfl ?_
    show LexPost h t _ _
    rw [hP, ← hQ]
    exact ⟨_, rfl, oh.sel [0] rfl⟩


end Go.Proofs.YtnmfanjhepepbaaGreatDoor
