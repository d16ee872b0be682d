/-
  The hashes of chapter 5: the program's and the reference's.
-/
import Derived.Test.YtmehgkkpabbmcaaDoorStructs
namespace Go.Proofs.YtmehgkkpabbmcaaDoor
open Go

theorem tmodp (n : Int) : n.tmod 2147483647 = if 0 ≤ n then n % 2147483647 else -((-n) % 2147483647) := by
  split
  · exact Int.tmod_eq_emod_of_nonneg (by assumption)
  · have : n = -(-n) := by omega
    rw [this, Int.neg_tmod, Int.tmod_eq_emod_of_nonneg (by omega)]; simp

theorem modp (n : Int) : (n.tmod 2147483647 + 2147483647) % 2147483647 = n % 2147483647 := by
  rw [tmodp]; split <;> omega

def hashL (m h : Int) (l : List UInt8) : Int := l.foldl (fun h b => (h * m + b.toNat + 1) % 2147483647) h
def hash (l : List UInt8) (seed : Int) : Int := (hashL (16807 + (seed % 2147483647) % 1000003) (seed % 2147483647) l * 48271 + 11) % 2147483647

theorem hashL_snoc (m h : Int) (l : List UInt8) (i : Nat) (c : UInt8) (hc : l[i]? = some c) : hashL m h (l.take (i + 1)) = (hashL m h (l.take i) * m + c.toNat + 1) % 2147483647 := by
  obtain ⟨hi, he⟩ := List.getElem?_eq_some_iff.1 hc
  rw [List.take_succ_eq_append_getElem hi, he]; simp [hashL]

theorem hashL_range (m h : Int) (l : List UInt8) (h0 : 0 ≤ h) (h1 : h < 2147483647) : 0 ≤ hashL m h l ∧ hashL m h l < 2147483647 := by
  induction l generalizing h with
  | nil => exact ⟨h0, h1⟩
  | cons c l ih => exact ih _ (Int.emod_nonneg _ (by decide)) (Int.emod_lt_of_pos _ (by decide))

theorem hash_range (l : List UInt8) (seed : Int) : 0 ≤ hash l seed ∧ hash l seed < 2147483647 :=
  ⟨Int.emod_nonneg _ (by decide), Int.emod_lt_of_pos _ (by decide)⟩

theorem u8_lt (c : UInt8) : (c.toNat : Int) < 256 := by have := c.toNat_lt; omega

theorem hash1_spec (n : Int) (h : Heap) :
    SpecR Tryd.prog 34 [.int .i64 n] h fun v h' => v = .int .i64 (n % 2147483647) ∧ Own h [] h' := by
  refine Spec.enter Tryd.func34 rfl Tryd.ntmps34 (by kernel_rfl) ?_
  have b1 := Int.tmod_lt_of_pos n (show (0:Int) < 2147483647 by decide)
  have b2 := Int.lt_tmod_of_pos n (show (0:Int) < 2147483647 by decide)
  refine StillVC.run (StillVC.rem rfl rfl (by decide) ?_)
  refine Ar.i64 (by omega) (by omega) ?_
  refine StillVC.run (StillVC.remE rfl rfl (by omega) (by omega) ?_)
  refine RetVC.one rfl ?_
  exact ⟨congrArg _ (modp n), .refl h⟩

theorem refHash_spec (l : List UInt8) (seed : Int) (h : Heap) (hl : l.length ≤ 1000000000000) :
    SpecR Tryd.prog 21 [.string ⟨⟨l⟩⟩, .int .i64 seed] h fun v h' => v = .int .i64 (hash l seed) ∧ Own h [] h' := by
  refine Spec.enter Tryd.func21 rfl Tryd.ntmps21 (by kernel_rfl) ?_
  have b1 := Int.tmod_lt_of_pos seed (show (0:Int) < 2147483647 by decide)
  have b2 := Int.lt_tmod_of_pos seed (show (0:Int) < 2147483647 by decide)
  have b3 := tmodp seed
  refine StillVC.run (StillVC.rem rfl rfl (by decide) ?_)
  refine Br.join [5, 13, 14] [5] (fun vs h' => vs = [.int .i64 (seed % 2147483647)] ∧ h' = h) rfl rfl ?_ ?_
  · refine Br.dec (fun c10 => ?_) (fun c10 => ?_)
    refine Ar.i64 (by omega) (by omega) ?_
    refine ⟨rfl, ?_⟩
    rotate_left
    refine ⟨rfl, ?_⟩
    · exact ⟨by rw [b3]; congr 2; split at b3 <;> omega, rfl⟩
    · exact ⟨by rw [b3]; congr 2; split at b3 <;> omega, rfl⟩
  · rintro vs junk h' ⟨rfl, rfl⟩
    have hfin : hash l seed = (hashL (16807 + (seed % 2147483647) % 1000003) (seed % 2147483647) l * 48271 + 11) % 2147483647 := rfl
    have s1 : 0 ≤ seed % 2147483647 ∧ seed % 2147483647 < 2147483647 := by omega
    generalize seed % 2147483647 = s0 at *
    clear b1 b2 b3
    refine StillVC.run (StillVC.remE rfl rfl (by omega) (by omega) ?_)
    refine Ar.i64 (by omega) (by omega) ?_
    refine LoopVC.intro [7, 8, 19, 20, 21, 22, 23, 24, 25, 26, 27, 28, 29, 30, 31, 32, 33, 34] [7, 8] (fun vs h1 => ∃ (i : Nat), i ≤ l.length ∧ vs = [.int .i64 (hashL (16807 + s0 % 1000003) s0 (l.take i)), .int .i64 i] ∧ h1 = h') (fun vs _ => match vs with | [_, .int _ i] => l.length - i.toNat | _ => 0) ?_ ?_
    · exact ⟨0, by omega, rfl, rfl⟩
    · rintro vs junk h1 ⟨i, hi, rfl, rfl⟩
      have r := hashL_range (16807 + s0 % 1000003) s0 (l.take i) s1.1 s1.2
      have sn := hashL_snoc (16807 + s0 % 1000003) s0 l i
      generalize hx : hashL (16807 + s0 % 1000003) s0 (l.take i) = x at *
      have m0 : 0 ≤ 16807 + s0 % 1000003 ∧ 16807 + s0 % 1000003 ≤ 1016810 := by omega
      generalize hm : 16807 + s0 % 1000003 = m at *
      have m1 : 0 ≤ x * m := Int.mul_nonneg r.1 m0.1
      have m2 : x * m ≤ 2147483647 * 1016810 := Int.mul_le_mul (by omega) m0.2 m0.1 (by decide)
      refine StillVC.run (StillVC.lenS rfl str9 ?_)
      refine Br.dec (fun c31 => ?_) (fun c31 => ?_)
      refine Ar.i64 (by omega) (by omega) ?_
      rotate_left
      refine Ar.i64 (by omega) (by omega) ?_
      refine Ar.i64 (by omega) (by omega) ?_
      refine StillVC.run (StillVC.remE rfl rfl (by omega) (by omega) ?_)
      refine RetVC.one rfl ?_
      · obtain rfl : i = l.length := by omega
        refine ⟨?_, .refl h1⟩
        rw [hfin, ← hx, List.take_length]
      · obtain ⟨c, hc⟩ := getx (show i < l.length by omega)
        have hc8 := u8_lt c
        refine StillVC.run (StillVC.strIdx rfl rfl str9 (by omega) (by assumption) ?_)
        refine StillVC.run (StillVC.convI rfl int5 int3 ?_)
        refine Ar.i64 (by omega) (by omega) ?_
        refine Ar.i64 (by omega) (by omega) ?_
        refine Ar.i64 (by omega) (by omega) ?_
        refine StillVC.run (StillVC.remE rfl rfl (by omega) (by omega) ?_)
        refine Ar.i64 (by omega) (by omega) ?_
        refine ⟨rfl, ?_⟩
        refine ⟨⟨i + 1, by omega, ?_, rfl⟩, ?_⟩
        · rw [sn c hc]; rfl
        · simp; omega

theorem hash_spec (l : List UInt8) (seed : Int) (h : Heap) (hl : l.length ≤ 1000000000000) :
    SpecR Tryd.prog 20 [.string ⟨⟨l⟩⟩, .int .i64 seed] h fun v h' => v = .int .i64 (hash l seed) ∧ Own h [] h' := by
  refine Spec.enter Tryd.func20 rfl Tryd.ntmps20 (by kernel_rfl) ?_
  have o0 := Own.refl h
  have hfin : hash l seed = (hashL (16807 + (seed % 2147483647) % 1000003) (seed % 2147483647) l * 48271 + 11) % 2147483647 := rfl
  refine CallVC.ret (hash1_spec seed h) ?_
  rintro _ h1 ⟨rfl, oa⟩
  have o1 := o0.ext' oa
  have s1 : 0 ≤ seed % 2147483647 ∧ seed % 2147483647 < 2147483647 := by omega
  generalize seed % 2147483647 = s0 at *
  have ln : (bytes l).length = l.length := by simp
  refine StillVC.run (StillVC.remE rfl rfl (by omega) (by omega) ?_)
  refine Ar.i64 (by omega) (by omega) ?_
  (refine RunVC.strBytes o1 str9 sl53 int5 rfl ?_; intro v21 m21 o21)
  refine StillVC.run (StillVC.lenAn (o21.roArr 0 rfl) (by assumption) sl53 ?_)
  refine LoopVC.intro [8, 10, 21, 22, 23, 24, 25, 26, 27, 28, 29, 30, 31, 32, 33, 34] [8, 21] (fun vs h1 => ∃ (i : Nat), i ≤ l.length ∧ vs = [.int .i64 (hashL (16807 + s0 % 1000003) s0 (l.take i)), .int .i64 i] ∧ Own h [ro v21 (bytes l)] h1) (fun vs _ => match vs with | [_, .int _ i] => l.length - i.toNat | _ => 0) ?_ ?_
  · exact ⟨0, by omega, rfl, o21⟩
  · clear o0 o1 o21
    rintro vs junk h1 ⟨i, hi, rfl, o2⟩
    have r := hashL_range (16807 + s0 % 1000003) s0 (l.take i) s1.1 s1.2
    have sn := hashL_snoc (16807 + s0 % 1000003) s0 l i
    generalize hx : hashL (16807 + s0 % 1000003) s0 (l.take i) = x at *
    have m0 : 0 ≤ 16807 + s0 % 1000003 ∧ 16807 + s0 % 1000003 ≤ 1016810 := by omega
    generalize hm : 16807 + s0 % 1000003 = m at *
    have m1 : 0 ≤ x * m := Int.mul_nonneg r.1 m0.1
    have m2 : x * m ≤ 2147483647 * 1016810 := Int.mul_le_mul (by omega) m0.2 m0.1 (by decide)
    refine Br.dec (fun c30 => ?_) (fun c30 => ?_)
    refine StillVC.run (StillVC.idx sl53 ty5 (o2.roArr 0 rfl) rfl (by omega) (by omega) ?_)
    rotate_left
    refine Ar.i64 (by omega) (by omega) ?_
    refine Ar.i64 (by omega) (by omega) ?_
    · refine CallVC.ret (hash1_spec _ _) ?_
      rintro _ h2 ⟨rfl, oa⟩
      have o3 := o2.ext' oa
      refine RetVC.one rfl ?_
      obtain rfl : i = l.length := by omega
      refine ⟨?_, o3.sel [] rfl⟩
      rw [hfin, ← hx, List.take_length]
    · obtain ⟨c, hc⟩ := getx (show i < l.length by omega)
      have hc8 := u8_lt c
      refine StillVC.run (StillVC.loadM (o2.roArr 0 rfl) ty5 rfl (by first | assumption | rfl) ?_)
      refine Ar.i64 (by omega) (by omega) ?_
      refine StillVC.run (StillVC.convI rfl int5 int3 ?_)
      refine Ar.i64 (by omega) (by omega) ?_
      refine Ar.i64 (by omega) (by omega) ?_
      refine Ar.i64 (by omega) (by omega) ?_
      refine CallVC.ret (hash1_spec _ _) ?_
      rintro _ h2 ⟨rfl, oa⟩
      have o3 := o2.ext' oa
      refine Ar.i64 (by omega) (by omega) ?_
      refine ⟨rfl, ?_⟩
      refine ⟨⟨i + 1, by omega, ?_, o3⟩, ?_⟩
      · rw [sn c hc]; rfl
      · simp; omega

end Go.Proofs.YtmehgkkpabbmcaaDoor
