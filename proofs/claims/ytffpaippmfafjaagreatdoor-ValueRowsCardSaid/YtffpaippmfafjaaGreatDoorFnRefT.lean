/-
  The reference's values: their validity and their texts.
-/
import Derived.Test.YtffpaippmfafjaaGreatDoorStructs
import Derived.Test.YtffpaippmfafjaaGreatDoorFnParP
namespace Go.Proofs.YtffpaippmfafjaaGreatDoor
open Go

theorem digit_piece {u : Nat} (h : u < 10) : (List.take (u + 1) ([48, 49, 50, 51, 52, 53, 54, 55, 56, 57] : List UInt8)).drop u = [UInt8.ofNat (48 + u)] := by
  match u, h with
  | 0, _ => rfl
  | 1, _ => rfl
  | 2, _ => rfl
  | 3, _ => rfl
  | 4, _ => rfl
  | 5, _ => rfl
  | 6, _ => rfl
  | 7, _ => rfl
  | 8, _ => rfl
  | 9, _ => rfl

set_option maxRecDepth 100000 in
theorem digits_spec (u : Nat) : ∀ (h : Heap), u < 18446744073709551616 →
    SpecR Tryz.prog 53 [.int .u64 u] h fun r h' => r = .string ⟨⟨Lib.decDigits u⟩⟩ ∧ Own h [] h' := by
  induction u using Nat.strongRecOn with
  | _ u ih =>
    intro h hu
    refine Spec.enter Tryz.func53 rfl Tryz.ntmps53 (by kernel_rfl) ?_
    have o0 := Own.refl h
    by_cases hu10 : u < 10
    · refine Br.dec (fun c10 => ?_) (fun hc => absurd (by omega) hc)
      refine Ar.u64 (by omega) (by omega) ?_
      refine StillVC.run (StillVC.sliceS str9 rfl ⟨_, rfl⟩ ⟨_, rfl⟩ (by omega) (by omega) (by simp only [List.length_cons, List.length_nil, Nat.zero_add]; omega) ?_)
      refine RetVC.one rfl ?_
      refine ⟨?_, o0⟩
      rw [Lib.decDigits_one hu10, ← digit_piece hu10]
      rfl
    · refine Br.dec (fun hc => absurd hc (by omega)) (fun c20 => ?_)
      refine DrawVC.intro [0, 1, 3, 4, 5, 6, 7, 8, 9, 10] [] [2] [0, 1, 3, 4, 5, 6, 7, 8, 2, 9, 10] mixed (by kernel_rfl) rfl (fun _ _ _ _ h => h) ?_
      refine StillVC.quoE rfl rfl (by omega) (by omega) (by simp [IntKind.max, IntKind.signed, IntKind.bits] <;> omega) ?_
      refine StillVC.remE rfl rfl (by omega) (by omega) ?_
      refine StillVC.remE rfl rfl (by omega) (by omega) ?_
      refine Ar.u64 (by omega) (by omega) ?_
      refine StillVC.sliceS str9 rfl ⟨_, rfl⟩ ⟨_, rfl⟩ (by omega) (by omega) (by simp only [List.length_cons, List.length_nil, Nat.zero_add]; omega) ?_
      have key := ih (u / 10) (by omega) h (by omega)
      rw [Int.natCast_ediv] at key
      refine CallVC.ret key ?_
      rintro _ h1 ⟨rfl, o1⟩
      have hs := decDigits_short (u / 10) (by omega)
      refine StillVC.strAdd rfl rfl (by first | omega | (simp; omega)) ?_
      refine RetVC.one rfl ?_
      refine ⟨?_, o1⟩
      have e : Lib.decDigits u = Lib.decDigits (u / 10) ++ [UInt8.ofNat (48 + u % 10)] := by
        rw [Lib.decDigits, dif_neg hu10]
      rw [e, ← digit_piece (u := u % 10) (by omega)]
      rfl

set_option maxRecDepth 100000 in
theorem rdecimal_spec (n : Int) (h : Heap) (h0 : -9223372036854775808 ≤ n) (h1 : n ≤ 9223372036854775807) :
    SpecR Tryz.prog 43 [.int .i64 n] h fun r h' => r = .string ⟨⟨Lib.itoa n⟩⟩ ∧ Own h [] h' := by
  refine Spec.enter Tryz.func43 rfl Tryz.ntmps43 (by kernel_rfl) ?_
  have o0 := Own.refl h
  by_cases hn : n < 0
  · refine Br.dec (fun c10 => ?_) (fun hc => absurd (by omega) hc)
    refine StillVC.run (StillVC.convI rfl int3 int74 ?_)
    refine Ar.u64w ?_
    refine Ar.u64w ?_
    have key := digits_spec n.natAbs h (by omega)
    rw [show (n.natAbs : Int) = (0 - n % 18446744073709551616) % 18446744073709551616 by omega] at key
    refine CallVC.ret key ?_
    rintro _ h2 ⟨rfl, o2⟩
    have hs := decDigits_short n.natAbs (by omega)
    refine StillVC.run (StillVC.strAdd rfl rfl (by first | omega | (simp; omega)) ?_)
    refine RetVC.one rfl ?_
    refine ⟨?_, o2⟩
    rw [Lib.itoa, if_pos hn]
    rfl
  · refine Br.dec (fun hc => absurd hc (by omega)) (fun c20 => ?_)
    refine StillVC.run (StillVC.convI rfl int3 int74 ?_)
    refine Ar.u64 (by omega) (by omega) ?_
    have key := digits_spec n.toNat h (by omega)
    rw [show (n.toNat : Int) = n by omega] at key
    refine CallVC.ret key ?_
    rintro _ h2 ⟨rfl, o2⟩
    refine RetVC.one rfl ?_
    refine ⟨?_, o2⟩
    rw [Lib.itoa, if_neg hn]

theorem byte_at {t : List UInt8} {i : Nat} {c : UInt8} (h : t[i]? = some c) : List.drop (i : Int).toNat (List.take ((i : Int) + 1).toNat t) = [c] := by
  obtain ⟨hi, rfl⟩ := List.getElem?_eq_some_iff.1 h
  rw [show ((i : Int) + 1).toNat = i + 1 by omega, Int.toNat_natCast, List.drop_take, List.drop_eq_getElem_cons hi, show i + 1 - i = 1 by omega]
  rfl

set_option maxHeartbeats 4000000 in
set_option maxRecDepth 100000 in
theorem quoted2_spec (t : List UInt8) (h : Heap) (hl : t.length ≤ 1000000) :
    SpecR Tryz.prog 42 [.string ⟨⟨t⟩⟩] h fun r h' => r = .string ⟨⟨[34] ++ escS t ++ [34]⟩⟩ ∧ Own h [] h' := by
  refine Spec.enter Tryz.func42 rfl Tryz.ntmps42 (by kernel_rfl) ?_
  have o0 := Own.refl h
  have hel := escS_le t
  refine LoopVC.intro [3, 4, 5, 6, 7, 8, 9, 10, 11, 12, 13, 14, 15, 16, 17, 18, 19, 20, 21, 22, 23, 24, 25, 26, 27, 28, 29, 30, 31, 32] [3, 4] (fun vs hh => ∃ (i : Nat), i ≤ t.length ∧ vs = [.string ⟨⟨escS (t.take i)⟩⟩, .int .i64 i] ∧ Own h [] hh) (fun vs _ => match vs with | [_, .int _ i] => t.length - i.toNat | _ => 0) ?_ ?_
  · exact ⟨0, by omega, rfl, o0⟩
  · rintro vs junk hh ⟨i, hi, rfl, oh⟩
    have hle := escS_take_le t i
    by_cases hlt : i < t.length
    · obtain ⟨c, hc⟩ := getx hlt
      have ht1 := escS_take hc
      have hb := byte_at hc
      have hle2 := escS_take_le t (i + 1)
      unfold esc1 at ht1
      by_cases h34 : c = 34
      · have n34 : c.toNat = 34 := by rw [h34]; rfl
        rw [if_pos h34] at ht1
        refine StillVC.run (StillVC.lenS rfl str9 ?_)
        refine Br.dec (fun c21 => ?_) (fun hc => absurd (by omega) hc)
        refine StillVC.run (StillVC.strIdx rfl rfl str9 (by omega) (by assumption) ?_)
        refine Br.dec (fun c23 => ?_) (fun hc => absurd (by omega) hc)
        refine StillVC.run (StillVC.strAdd rfl rfl (by first | omega | (simp; omega)) ?_)
        refine Ar.i64 (by omega) (by omega) ?_
        refine ⟨rfl, ?_⟩
        exact ⟨⟨i + 1, by omega, by rw [ht1]; rfl, oh⟩, by simp; omega⟩
      · have n34 : c.toNat ≠ 34 := fun e => h34 (UInt8.toNat_inj.1 e)
        rw [if_neg h34] at ht1
        by_cases h92 : c = 92
        · have n92 : c.toNat = 92 := by rw [h92]; rfl
          rw [if_pos h92] at ht1
          refine StillVC.run (StillVC.lenS rfl str9 ?_)
          refine Br.dec (fun c31 => ?_) (fun hc => absurd (by omega) hc)
          refine StillVC.run (StillVC.strIdx rfl rfl str9 (by omega) (by assumption) ?_)
          refine Br.dec (fun hc => absurd hc (by omega)) (fun c33 => ?_)
          refine Br.dec (fun c34 => ?_) (fun hc => absurd (by omega) hc)
          refine StillVC.run (StillVC.strAdd rfl rfl (by first | omega | (simp; omega)) ?_)
          refine Ar.i64 (by omega) (by omega) ?_
          refine ⟨rfl, ?_⟩
          exact ⟨⟨i + 1, by omega, by rw [ht1]; rfl, oh⟩, by simp; omega⟩
        · have n92 : c.toNat ≠ 92 := fun e => h92 (UInt8.toNat_inj.1 e)
          rw [if_neg h92] at ht1
          by_cases h10 : c = 10
          · have n10 : c.toNat = 10 := by rw [h10]; rfl
            rw [if_pos h10] at ht1
            refine StillVC.run (StillVC.lenS rfl str9 ?_)
            refine Br.dec (fun c41 => ?_) (fun hc => absurd (by omega) hc)
            refine StillVC.run (StillVC.strIdx rfl rfl str9 (by omega) (by assumption) ?_)
            refine Br.dec (fun hc => absurd hc (by omega)) (fun c43 => ?_)
            refine Br.dec (fun hc => absurd hc (by omega)) (fun c44 => ?_)
            refine Br.dec (fun c45 => ?_) (fun hc => absurd (by omega) hc)
            refine StillVC.run (StillVC.strAdd rfl rfl (by first | omega | (simp; omega)) ?_)
            refine Ar.i64 (by omega) (by omega) ?_
            refine ⟨rfl, ?_⟩
            exact ⟨⟨i + 1, by omega, by rw [ht1]; rfl, oh⟩, by simp; omega⟩
          · have n10 : c.toNat ≠ 10 := fun e => h10 (UInt8.toNat_inj.1 e)
            rw [if_neg h10] at ht1
            refine StillVC.run (StillVC.lenS rfl str9 ?_)
            refine Br.dec (fun c51 => ?_) (fun hc => absurd (by omega) hc)
            refine StillVC.run (StillVC.strIdx rfl rfl str9 (by omega) (by assumption) ?_)
            refine Br.dec (fun hc => absurd hc (by omega)) (fun c53 => ?_)
            refine Br.dec (fun hc => absurd hc (by omega)) (fun c54 => ?_)
            refine Br.dec (fun hc => absurd hc (by omega)) (fun c55 => ?_)
            refine Ar.i64 (by omega) (by omega) ?_
            refine StillVC.run (StillVC.sliceS str9 rfl ⟨_, rfl⟩ ⟨_, rfl⟩ (by omega) (by omega) (by omega) ?_)
            refine StillVC.run (StillVC.strAdd rfl rfl (by first | omega | (simp; omega)) ?_)
            refine Ar.i64 (by omega) (by omega) ?_
            refine ⟨rfl, ?_⟩
            exact ⟨⟨i + 1, by omega, by rw [ht1, ← hb]; rfl, oh⟩, by simp; omega⟩
    · have e1 : t.take i = t := List.take_of_length_le (by omega)
      rw [e1]
      refine StillVC.run (StillVC.lenS rfl str9 ?_)
      refine Br.dec (fun hc => absurd hc (by omega)) (fun c81 => ?_)
      refine StillVC.run (StillVC.strAdd rfl rfl (by first | omega | (simp; omega)) ?_)
      refine StillVC.run (StillVC.strAdd rfl rfl (by first | omega | (simp; omega)) ?_)
      refine RetVC.one rfl ?_
      exact ⟨rfl, oh⟩

set_option maxHeartbeats 4000000 in
set_option maxRecDepth 100000 in
theorem rvalid_spec (k n : Int) (t : List UInt8) (h : Heap) (_hl : t.length ≤ 9223372036854775807) :
    SpecR Tryz.prog 18 [valV k n t] h fun r h' => r = .bool (decide (validP k n t)) ∧ Own h [] h' := by
  have o0 := Own.refl h
  show SpecR Tryz.prog 18 [.agg ⟨[.int .i64 k, .int .i64 n, .string ⟨⟨t⟩⟩]⟩] h _
  refine Spec.enter Tryz.func18 rfl Tryz.ntmps18 (by kernel_rfl) ?_
  (refine RunVC.boxO o0 rfl ?_; intro b10 m10 o10)
  refine StillVC.run (StillVC.fieldAddr st23 rfl rfl rfl ?_)
  refine StillVC.run (StillVC.loadO o10 0 rfl ty3 rfl rfl ?_)
  refine Br.dec (fun c13 => ?_) (fun c13 => ?_)
  refine StillVC.run (StillVC.fieldAddr st23 rfl rfl rfl ?_)
  refine StillVC.run (StillVC.loadO o10 0 rfl ty3 rfl rfl ?_)
  refine Br.dec (fun c16 => ?_) (fun c16 => ?_)
  refine StillVC.run (StillVC.fieldAddr st23 rfl rfl rfl ?_)
  refine StillVC.run (StillVC.loadO o10 0 rfl ty9 rfl rfl ?_)
  refine RetVC.one rfl ?_
  rotate_left
  refine RetVC.one rfl ?_
  rotate_left
  refine Br.dec (fun c19 => ?_) (fun c19 => ?_)
  refine StillVC.run (StillVC.fieldAddr st23 rfl rfl rfl ?_)
  refine StillVC.run (StillVC.loadO o10 0 rfl ty3 rfl rfl ?_)
  refine Br.dec (fun c22 => ?_) (fun c22 => ?_)
  refine StillVC.run (StillVC.fieldAddr st23 rfl rfl rfl ?_)
  refine StillVC.run (StillVC.loadO o10 0 rfl ty9 rfl rfl ?_)
  refine StillVC.run (StillVC.lenS rfl str9 ?_)
  refine RetVC.one rfl ?_
  rotate_left
  refine RetVC.one rfl ?_
  rotate_left
  refine Br.dec (fun c26 => ?_) (fun c26 => ?_)
  refine StillVC.run (StillVC.fieldAddr st23 rfl rfl rfl ?_)
  refine StillVC.run (StillVC.loadO o10 0 rfl ty3 rfl rfl ?_)
  refine Br.dec (fun c29 => ?_) (fun c29 => ?_)
  refine StillVC.run (StillVC.fieldAddr st23 rfl rfl rfl ?_)
  refine StillVC.run (StillVC.loadO o10 0 rfl ty3 rfl rfl ?_)
  refine Br.dec (fun c32 => ?_) (fun c32 => ?_)
  refine StillVC.run (StillVC.fieldAddr st23 rfl rfl rfl ?_)
  refine StillVC.run (StillVC.loadO o10 0 rfl ty9 rfl rfl ?_)
  refine RetVC.one rfl ?_
  rotate_left
  refine RetVC.one rfl ?_
  rotate_left
  refine RetVC.one rfl ?_
  rotate_left
  refine Br.dec (fun c35 => ?_) (fun c35 => ?_)
  refine StillVC.run (StillVC.fieldAddr st23 rfl rfl rfl ?_)
  refine StillVC.run (StillVC.loadO o10 0 rfl ty3 rfl rfl ?_)
  refine Br.dec (fun c38 => ?_) (fun c38 => ?_)
  refine StillVC.run (StillVC.fieldAddr st23 rfl rfl rfl ?_)
  refine StillVC.run (StillVC.loadO o10 0 rfl ty3 rfl rfl ?_)
  refine Br.dec (fun c41 => ?_) (fun c41 => ?_)
  refine StillVC.run (StillVC.fieldAddr st23 rfl rfl rfl ?_)
  refine StillVC.run (StillVC.loadO o10 0 rfl ty9 rfl rfl ?_)
  refine RetVC.one rfl ?_
  rotate_left
  refine RetVC.one rfl ?_
  rotate_left
  refine RetVC.one rfl ?_
  rotate_left
  refine Br.dec (fun c44 => ?_) (fun c44 => ?_)
  refine StillVC.run (StillVC.fieldAddr st23 rfl rfl rfl ?_)
  refine StillVC.run (StillVC.loadO o10 0 rfl ty3 rfl rfl ?_)
  refine Br.dec (fun c47 => ?_) (fun c47 => ?_)
  refine StillVC.run (StillVC.fieldAddr st23 rfl rfl rfl ?_)
  refine StillVC.run (StillVC.loadO o10 0 rfl ty9 rfl rfl ?_)
  refine RetVC.one rfl ?_
  rotate_left
  refine StillVC.run (StillVC.fieldAddr st23 rfl rfl rfl ?_)
  refine StillVC.run (StillVC.loadO o10 0 rfl ty3 rfl rfl ?_)
  refine Br.dec (fun c52 => ?_) (fun c52 => ?_)
  refine StillVC.run (StillVC.fieldAddr st23 rfl rfl rfl ?_)
  refine StillVC.run (StillVC.loadO o10 0 rfl ty9 rfl rfl ?_)
  refine RetVC.one rfl ?_
  rotate_left
  refine RetVC.one rfl ?_
  rotate_left
  refine RetVC.one rfl ?_
  all_goals refine ⟨?_, Own.sel (by assumption) [] rfl⟩
  all_goals unfold validP; first | exact congrArg Value.bool (decide_eq_decide.2 (by grind)) | exact congrArg Value.bool (decide_eq_false (by grind)).symm | exact congrArg Value.bool (decide_eq_true (by grind)).symm

end Go.Proofs.YtffpaippmfafjaaGreatDoor
