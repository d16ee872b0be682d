/-
  The reference's parsing: Number, unquoted, Parse.
-/
import Derived.Test.YtffpaippmfafjaaGreatDoorStructs
import Derived.Test.YtffpaippmfafjaaGreatDoorFnRefQ
import Derived.Test.YtffpaippmfafjaaGreatDoorFnRefS
namespace Go.Proofs.YtffpaippmfafjaaGreatDoor
open Go

set_option maxHeartbeats 4000000 in
set_option maxRecDepth 100000 in
theorem number_spec (s : List UInt8) (h : Heap) (hl : s.length ≤ 1000000) :
    SpecR Tryz.prog 33 [.string ⟨⟨s⟩⟩] h fun r h' => r = .int .i64 (numR s) ∧ Own h [] h' := by
  refine Spec.enter Tryz.func33 rfl Tryz.ntmps33 (by kernel_rfl) ?_
  have o0 := Own.refl h
  refine LoopVC.intro [3, 4, 5, 6, 7, 8, 9, 10, 11, 12, 13, 14, 15, 16, 17, 18, 19, 20, 21, 22, 23, 24, 25, 26, 27, 28, 29, 30, 31, 32] [3, 4] (fun vs hh => ∃ (i : Nat), i ≤ s.length ∧ i ≤ 20 ∧ vs = [.int .u64 ((s.take i).foldl numS 0), .int .i64 i] ∧ Own h [] hh) (fun vs _ => match vs with | [_, .int _ i] => s.length - i.toNat | _ => 0) ?_ ?_
  · exact ⟨0, by omega, by omega, rfl, o0⟩
  · rintro vs junk hh ⟨i, hi, hi20, rfl, oh⟩
    have hrng := foldS_rng (s.take i) 0 (by omega)
    by_cases hlt : i < s.length ∧ i < 20
    · obtain ⟨c, hc⟩ := getx hlt.1
      have hT : (s.take (i + 1)).foldl numS 0 = if 48 ≤ c.toNat ∧ c.toNat ≤ 57 then ((s.take i).foldl numS 0 * 10 % 18446744073709551616 + (c.toNat - 48)) % 18446744073709551616 else (s.take i).foldl numS 0 := by
        rw [List.take_add_one, hc, List.foldl_append]; rfl
      by_cases hd : 48 ≤ c.toNat ∧ c.toNat ≤ 57
      · rw [if_pos hd] at hT
        refine StillVC.run (StillVC.lenS rfl str9 ?_)
        refine Br.dec (fun c21 => ?_) (fun hc => absurd (by omega) hc)
        refine Br.dec (fun c22 => ?_) (fun hc => absurd (by omega) hc)
        refine StillVC.run (StillVC.strIdx rfl rfl str9 (by omega) (by assumption) ?_)
        refine Br.dec (fun c24 => ?_) (fun hc => absurd (by omega) hc)
        refine StillVC.run (StillVC.strIdx rfl rfl str9 (by omega) (by assumption) ?_)
        refine Br.dec (fun c26 => ?_) (fun hc => absurd (by omega) hc)
        refine Ar.u64w ?_
        refine StillVC.run (StillVC.strIdx rfl rfl str9 (by omega) (by assumption) ?_)
        refine Ar.u8 (by omega) (by omega) ?_
        refine StillVC.run (StillVC.convI rfl int5 int74 ?_)
        refine Ar.u64 (by omega) (by omega) ?_
        refine Ar.u64w ?_
        refine Ar.i64 (by omega) (by omega) ?_
        refine ⟨rfl, ?_⟩
        exact ⟨⟨i + 1, by omega, by omega, by rw [hT]; rfl, oh⟩, by simp; omega⟩
      · rw [if_neg hd] at hT
        by_cases h48 : c.toNat < 48
        · refine StillVC.run (StillVC.lenS rfl str9 ?_)
          refine Br.dec (fun c31 => ?_) (fun hc => absurd (by omega) hc)
          refine Br.dec (fun c32 => ?_) (fun hc => absurd (by omega) hc)
          refine StillVC.run (StillVC.strIdx rfl rfl str9 (by omega) (by assumption) ?_)
          refine Br.dec (fun hc => absurd hc (by omega)) (fun c34 => ?_)
          refine Br.ff ?_
          refine Ar.i64 (by omega) (by omega) ?_
          refine ⟨rfl, ?_⟩
          exact ⟨⟨i + 1, by omega, by omega, by rw [hT]; rfl, oh⟩, by simp; omega⟩
        · refine StillVC.run (StillVC.lenS rfl str9 ?_)
          refine Br.dec (fun c41 => ?_) (fun hc => absurd (by omega) hc)
          refine Br.dec (fun c42 => ?_) (fun hc => absurd (by omega) hc)
          refine StillVC.run (StillVC.strIdx rfl rfl str9 (by omega) (by assumption) ?_)
          refine Br.dec (fun c44 => ?_) (fun hc => absurd (by omega) hc)
          refine StillVC.run (StillVC.strIdx rfl rfl str9 (by omega) (by assumption) ?_)
          refine Br.dec (fun hc => absurd hc (by omega)) (fun c46 => ?_)
          refine Ar.i64 (by omega) (by omega) ?_
          refine ⟨rfl, ?_⟩
          exact ⟨⟨i + 1, by omega, by omega, by rw [hT]; rfl, oh⟩, by simp; omega⟩
    · have e1 : (s.take i).foldl numS 0 = numF s := by
        unfold numF
        by_cases h20 : i = 20
        · rw [h20]
        · rw [List.take_of_length_le (by omega), List.take_of_length_le (by omega)]
      rw [e1] at hrng ⊢
      clear e1
      have hw : ∀ x : Int, -9223372036854775808 ≤ wrap64 x ∧ wrap64 x ≤ 9223372036854775807 ∧ (x - wrap64 x) % 18446744073709551616 = 0 := fun x => by unfold wrap64; omega
      have hw0 := hw (numF s)
      have hw1 := hw (-(numF s))
      have hs : (s = [] ∧ numR s = wrap64 (numF s)) ∨ (s[0]? = some 45 ∧ s ≠ [] ∧ numR s = wrap64 (-(numF s))) ∨ ∃ c, s[0]? = some c ∧ s ≠ [] ∧ c.toNat ≠ 45 ∧ numR s = wrap64 (numF s) := by
        unfold numR
        cases s with
        | nil => exact .inl ⟨rfl, if_neg (by simp)⟩
        | cons c r => by_cases hc : c = 45
                      · exact .inr (.inl ⟨by rw [hc]; rfl, by simp, by rw [hc]; exact if_pos rfl⟩)
                      · exact .inr (.inr ⟨c, rfl, by simp, fun e => hc (UInt8.toNat_inj.1 e), if_neg (by simp; exact hc)⟩)
      generalize numF s = m at *
      by_cases hl1 : i < s.length
      all_goals rcases hs with ⟨rfl, hR⟩ | ⟨hg, hne, hR⟩ | ⟨c, hg, hne, hc45, hR⟩
      · simp at hl1
      · rw [hR]
        refine StillVC.run (StillVC.lenS rfl str9 ?_)
        refine Br.dec (fun c61 => ?_) (fun hc => absurd (by omega) hc)
        refine Br.dec (fun hc => absurd hc (by omega)) (fun c62 => ?_)
        refine Br.ndec (fun c63 => ?_) (fun hc => absurd hc (by first | omega | assumption | decide | exact rfl))
        refine StillVC.run (StillVC.strIdx rfl rfl str9 (by omega) (by assumption) ?_)
        refine Br.tt ?_
        refine Ar.u64w ?_
        refine StillVC.run (StillVC.convI rfl int74 int3 ?_)
        refine Ar.i64n (m := wrap64 (-m)) (by omega) (by omega) (by omega) ?_
        refine RetVC.one rfl ?_
        exact ⟨rfl, oh⟩
      · rw [hR]
        refine StillVC.run (StillVC.lenS rfl str9 ?_)
        refine Br.dec (fun c81 => ?_) (fun hc => absurd (by omega) hc)
        refine Br.dec (fun hc => absurd hc (by omega)) (fun c82 => ?_)
        refine Br.ndec (fun c83 => ?_) (fun hc => absurd hc (by first | omega | assumption | decide | exact rfl))
        refine StillVC.run (StillVC.strIdx rfl rfl str9 (by omega) (by assumption) ?_)
        refine Br.dec (fun hc => absurd hc (by omega)) (fun c85 => ?_)
        refine StillVC.run (StillVC.convI rfl int74 int3 ?_)
        refine Ar.i64n (m := wrap64 (m)) (by omega) (by omega) (by omega) ?_
        refine RetVC.one rfl ?_
        exact ⟨rfl, oh⟩
      · rw [hR]
        refine StillVC.run (StillVC.lenS rfl str9 ?_)
        refine Br.dec (fun hc => absurd hc (by omega)) (fun c101 => ?_)
        refine Br.ff ?_
        refine Br.ff ?_
        refine Br.ff ?_
        refine StillVC.run (StillVC.convI rfl int74 int3 ?_)
        refine Ar.i64n (m := wrap64 (m)) (by omega) (by omega) (by omega) ?_
        refine RetVC.one rfl ?_
        exact ⟨rfl, oh⟩
      · rw [hR]
        refine StillVC.run (StillVC.lenS rfl str9 ?_)
        refine Br.dec (fun hc => absurd hc (by omega)) (fun c121 => ?_)
        refine Br.ff ?_
        refine Br.ndec (fun c122 => ?_) (fun hc => absurd hc (by first | omega | assumption | decide | exact rfl))
        refine StillVC.run (StillVC.strIdx rfl rfl str9 (by omega) (by assumption) ?_)
        refine Br.tt ?_
        refine Ar.u64w ?_
        refine StillVC.run (StillVC.convI rfl int74 int3 ?_)
        refine Ar.i64n (m := wrap64 (-m)) (by omega) (by omega) (by omega) ?_
        refine RetVC.one rfl ?_
        exact ⟨rfl, oh⟩
      · rw [hR]
        refine StillVC.run (StillVC.lenS rfl str9 ?_)
        refine Br.dec (fun hc => absurd hc (by omega)) (fun c141 => ?_)
        refine Br.ff ?_
        refine Br.ndec (fun c142 => ?_) (fun hc => absurd hc (by first | omega | assumption | decide | exact rfl))
        refine StillVC.run (StillVC.strIdx rfl rfl str9 (by omega) (by assumption) ?_)
        refine Br.dec (fun hc => absurd hc (by omega)) (fun c144 => ?_)
        refine StillVC.run (StillVC.convI rfl int74 int3 ?_)
        refine Ar.i64n (m := wrap64 (m)) (by omega) (by omega) (by omega) ?_
        refine RetVC.one rfl ?_
        exact ⟨rfl, oh⟩

set_option maxHeartbeats 4000000 in
set_option maxRecDepth 100000 in
theorem unquoted_spec (s : List UInt8) (h : Heap) (hl : s.length ≤ 1000000) :
    SpecR Tryz.prog 34 [.string ⟨⟨s⟩⟩] h fun r h' => r = .string ⟨⟨unqF (s.drop 1)⟩⟩ ∧ Own h [] h' := by
  refine Spec.enter Tryz.func34 rfl Tryz.ntmps34 (by kernel_rfl) ?_
  have o0 := Own.refl h
  refine LoopVC.intro [3, 4, 5, 6, 7, 8, 9, 10, 11, 12, 13, 14, 15, 16, 17, 18, 19, 20, 21, 22, 23, 24, 25, 26, 27, 28, 29, 30, 31] [3, 4] (fun vs hh => ∃ (i : Nat) (u : List UInt8), 1 ≤ i ∧ i ≤ s.length + 1 ∧ u.length ≤ i ∧ u ++ unqF (s.drop i) = unqF (s.drop 1) ∧ vs = [.string ⟨⟨u⟩⟩, .int .i64 i] ∧ Own h [] hh) (fun vs _ => match vs with | [_, .int _ i] => s.length + 1 - i.toNat | _ => 0) ?_ ?_
  · exact ⟨1, [], by omega, by omega, by simp, rfl, rfl, o0⟩
  · rintro vs junk hh ⟨i, u, hi1, hi, hul, hu, rfl, oh⟩
    by_cases hlt : i + 1 < s.length
    · obtain ⟨c, hc⟩ := getx (show i < s.length by omega)
      obtain ⟨d, hd⟩ := getx hlt
      have hbc := byte_at hc
      have hbd := byte_at hd
      have hU : unqF (s.drop i) = if c = 92 then (if d = 110 then 10 else d) :: unqF (s.drop (i + 2)) else c :: unqF (s.drop (i + 1)) := by
        obtain ⟨h1, rfl⟩ := List.getElem?_eq_some_iff.1 hc
        obtain ⟨h2, rfl⟩ := List.getElem?_eq_some_iff.1 hd
        rw [List.drop_eq_getElem_cons h1, List.drop_eq_getElem_cons h2, unqF.eq_3]
      have hbd : List.drop ((i : Int) + 1).toNat (List.take ((i : Int) + 1 + 1).toNat s) = [d] := hbd
      rw [hU] at hu
      by_cases h92 : c = 92
      · rw [if_pos h92] at hu
        subst h92
        by_cases h110 : d = 110
        · rw [if_pos h110] at hu
          subst h110
          refine Ar.i64 (by omega) (by omega) ?_
          refine StillVC.run (StillVC.lenS rfl str9 ?_)
          refine Br.dec (fun c21 => ?_) (fun hc => absurd (by omega) hc)
          refine Ar.i64 (by omega) (by omega) ?_
          refine StillVC.run (StillVC.sliceS str9 rfl ⟨_, rfl⟩ ⟨_, rfl⟩ (by omega) (by omega) (by omega) ?_)
          refine Br.dec (fun c23 => ?_) (fun hc => absurd (by omega) hc)
          refine Ar.i64 (by omega) (by omega) ?_
          refine Ar.i64 (by omega) (by omega) ?_
          refine StillVC.run (StillVC.sliceS str9 rfl ⟨_, rfl⟩ ⟨_, rfl⟩ (by omega) (by omega) (by omega) ?_)
          refine Br.dec (fun c25 => ?_) (fun hc => absurd (by omega) hc)
          refine StillVC.run (StillVC.strAdd rfl rfl (by first | omega | (simp; omega)) ?_)
          refine Ar.i64 (by omega) (by omega) ?_
          refine ⟨rfl, ?_⟩
          exact ⟨⟨i + 2, u ++ [10], by omega, by omega, by simp; omega, by rw [← hu]; simp, rfl, oh⟩, by simp; omega⟩
        · rw [if_neg h110] at hu
          refine Ar.i64 (by omega) (by omega) ?_
          refine StillVC.run (StillVC.lenS rfl str9 ?_)
          refine Br.dec (fun c41 => ?_) (fun hc => absurd (by omega) hc)
          refine Ar.i64 (by omega) (by omega) ?_
          refine StillVC.run (StillVC.sliceS str9 rfl ⟨_, rfl⟩ ⟨_, rfl⟩ (by omega) (by omega) (by omega) ?_)
          refine Br.dec (fun c43 => ?_) (fun hc => absurd (by omega) hc)
          refine Ar.i64 (by omega) (by omega) ?_
          refine Ar.i64 (by omega) (by omega) ?_
          refine StillVC.run (StillVC.sliceS str9 rfl ⟨_, rfl⟩ ⟨_, rfl⟩ (by omega) (by omega) (by omega) ?_)
          refine Br.dec (fun c45 => ?_) (fun c45 => ?_)
          refine StillVC.run (StillVC.strAdd rfl rfl (by first | omega | (simp; omega)) ?_)
          refine Ar.i64 (by omega) (by omega) ?_
          refine ⟨rfl, ?_⟩
          rotate_left
          refine StillVC.run (StillVC.strAdd rfl rfl (by first | omega | (simp; omega)) ?_)
          refine Ar.i64 (by omega) (by omega) ?_
          refine ⟨rfl, ?_⟩
          · rw [hbd]
            exact ⟨⟨i + 2, u ++ [d], by omega, by omega, by simp; omega, by rw [← hu]; simp, rfl, oh⟩, by simp; omega⟩
          · exact absurd (hbd.symm.trans c45) (by simpa using h110)
      · rw [if_neg h92] at hu
        refine Ar.i64 (by omega) (by omega) ?_
        refine StillVC.run (StillVC.lenS rfl str9 ?_)
        refine Br.dec (fun c61 => ?_) (fun hc => absurd (by omega) hc)
        refine Ar.i64 (by omega) (by omega) ?_
        refine StillVC.run (StillVC.sliceS str9 rfl ⟨_, rfl⟩ ⟨_, rfl⟩ (by omega) (by omega) (by omega) ?_)
        refine Br.dec (fun c63 => ?_) (fun c63 => ?_)
        refine Ar.i64 (by omega) (by omega) ?_
        refine Ar.i64 (by omega) (by omega) ?_
        refine StillVC.run (StillVC.sliceS str9 rfl ⟨_, rfl⟩ ⟨_, rfl⟩ (by omega) (by omega) (by omega) ?_)
        refine Br.dec (fun c65 => ?_) (fun c65 => ?_)
        refine StillVC.run (StillVC.strAdd rfl rfl (by first | omega | (simp; omega)) ?_)
        refine Ar.i64 (by omega) (by omega) ?_
        refine ⟨rfl, ?_⟩
        rotate_left
        refine StillVC.run (StillVC.strAdd rfl rfl (by first | omega | (simp; omega)) ?_)
        refine Ar.i64 (by omega) (by omega) ?_
        refine ⟨rfl, ?_⟩
        rotate_left
        refine StillVC.run (StillVC.strAdd rfl rfl (by first | omega | (simp; omega)) ?_)
        refine Ar.i64 (by omega) (by omega) ?_
        refine ⟨rfl, ?_⟩
        · rw [hbc]
          exact ⟨⟨i + 1, u ++ [c], by omega, by omega, by simp; omega, by rw [← hu]; simp, rfl, oh⟩, by simp; omega⟩
        · exact absurd (hbc.symm.trans c63) (by simpa using h92)
        · exact absurd (hbc.symm.trans c63) (by simpa using h92)
    · have e1 : unqF (s.drop i) = [] := by
        have hl1 : (s.drop i).length ≤ 1 := by rw [List.length_drop]; omega
        match s.drop i, hl1 with
        | [], _ => exact unqF.eq_1
        | [_], _ => exact unqF.eq_2 _
      rw [e1, List.append_nil] at hu
      subst hu
      refine Ar.i64 (by omega) (by omega) ?_
      refine StillVC.run (StillVC.lenS rfl str9 ?_)
      refine Br.dec (fun hc => absurd hc (by omega)) (fun c61 => ?_)
      refine RetVC.one rfl ?_
      exact ⟨rfl, oh⟩

end Go.Proofs.YtffpaippmfafjaaGreatDoor
