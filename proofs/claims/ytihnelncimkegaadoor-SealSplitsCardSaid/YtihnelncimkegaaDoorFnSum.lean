/-
  The sums of chapter 45; numbers in bytes.
-/
import Derived.Test.YtihnelncimkegaaDoorStructs
namespace Go.Proofs.YtihnelncimkegaaDoor
open Go

theorem u8_lt (c : UInt8) : (c.toNat : Int) < 256 := by have := c.toNat_lt; omega

def sumL (l : List UInt8) : Int := l.foldl (fun s b => (s * 257 + b.toNat + 1) % 2147483647) 0

theorem sumL_snoc (l : List UInt8) (i : Nat) (c : UInt8) (hc : l[i]? = some c) : sumL (l.take (i + 1)) = (sumL (l.take i) * 257 + c.toNat + 1) % 2147483647 := by
  obtain ⟨hi, he⟩ := List.getElem?_eq_some_iff.1 hc
  rw [List.take_succ_eq_append_getElem hi, he]; simp [sumL]

theorem sumL_from (l : List UInt8) : ∀ s : Int, 0 ≤ s → s < 2147483647 → 0 ≤ l.foldl (fun (s : Int) (b : UInt8) => (s * 257 + b.toNat + 1) % 2147483647) s ∧ l.foldl (fun (s : Int) (b : UInt8) => (s * 257 + b.toNat + 1) % 2147483647) s < 2147483647 := by
  induction l with
  | nil => intro s h1 h2; exact ⟨h1, h2⟩
  | cons c l ih => intro s h1 h2; exact ih _ (Int.emod_nonneg _ (by decide)) (Int.emod_lt_of_pos _ (by decide))

theorem sumL_range (l : List UInt8) : 0 ≤ sumL l ∧ sumL l < 2147483647 := sumL_from l 0 (by decide) (by decide)

theorem sum_spec (l : List UInt8) (h : Heap) (hl : l.length ≤ 140737488351232) :
    SpecR Tryd.prog 17 [.string ⟨⟨l⟩⟩] h fun v h' => v = .int .i64 (sumL l) ∧ Own h [] h' := by
  refine Spec.enter Tryd.func17 rfl Tryd.ntmps17 (by kernel_rfl) ?_
  refine StillVC.run (StillVC.lenS rfl str9 ?_)
  refine LoopVC.intro [3, 4, 7, 8, 9, 10, 11, 12, 13, 14, 15, 16, 17, 18, 19] [3, 7] (fun vs h1 => ∃ (i : Nat), i ≤ l.length ∧ vs = [.int .i64 (sumL (l.take i)), .int .i64 i] ∧ h1 = h) (fun vs _ => match vs with | [_, .int _ i] => l.length - i.toNat | _ => 0) ?_ ?_
  · exact ⟨0, by omega, rfl, rfl⟩
  · rintro vs junk h1 ⟨i, hi, rfl, rfl⟩
    have r := sumL_range (l.take i)
    by_cases hlt : i < l.length
    · obtain ⟨c, hc⟩ := getx hlt
      have hc8 := u8_lt c
      have sn := sumL_snoc l i c hc
      generalize sumL (l.take i) = x at *
      refine Br.dec (fun c20 => ?_) (fun hc => absurd (by omega) hc)
      refine Ar.i64 (by omega) (by omega) ?_
      refine StillVC.run (StillVC.strIdx rfl rfl str9 (by omega) (by assumption) ?_)
      refine StillVC.run (StillVC.convI rfl int5 int3 ?_)
      refine Ar.i64 (by omega) (by omega) ?_
      refine Ar.i64 (by omega) (by omega) ?_
      refine Ar.i64 (by omega) (by omega) ?_
      refine StillVC.run (StillVC.remE rfl rfl (by omega) (by omega) ?_)
      refine Ar.i64 (by omega) (by omega) ?_
      refine ⟨rfl, ?_⟩
      exact ⟨⟨i + 1, by omega, by rw [sn]; rfl, rfl⟩, by simp; omega⟩
    · obtain rfl : i = l.length := by omega
      rw [List.take_length]
      refine Br.dec (fun hc => absurd hc (by omega)) (fun c30 => ?_)
      refine RetVC.one rfl ?_
      exact ⟨rfl, .refl _⟩

theorem refSum_spec (l : List UInt8) (h : Heap) (hl : l.length ≤ 140737488351232) :
    SpecR Tryd.prog 18 [.string ⟨⟨l⟩⟩] h fun v h' => v = .int .i64 (sumL l) ∧ Own h [] h' := by
  refine Spec.enter Tryd.func18 rfl Tryd.ntmps18 (by kernel_rfl) ?_
  refine LoopVC.intro [3, 4, 5, 6, 7, 8, 9, 10, 11, 12, 13, 14, 15, 16, 17, 18, 19] [3, 4] (fun vs h1 => ∃ (i : Nat), i ≤ l.length ∧ vs = [.int .i64 (sumL (l.take i)), .int .i64 i] ∧ h1 = h) (fun vs _ => match vs with | [_, .int _ i] => l.length - i.toNat | _ => 0) ?_ ?_
  · exact ⟨0, by omega, rfl, rfl⟩
  · rintro vs junk h1 ⟨i, hi, rfl, rfl⟩
    have r := sumL_range (l.take i)
    by_cases hlt : i < l.length
    · obtain ⟨c, hc⟩ := getx hlt
      have hc8 := u8_lt c
      have sn := sumL_snoc l i c hc
      generalize sumL (l.take i) = x at *
      refine StillVC.run (StillVC.lenS rfl str9 ?_)
      refine Br.dec (fun c21 => ?_) (fun hc => absurd (by omega) hc)
      refine Ar.i64 (by omega) (by omega) ?_
      refine StillVC.run (StillVC.strIdx rfl rfl str9 (by omega) (by assumption) ?_)
      refine StillVC.run (StillVC.convI rfl int5 int3 ?_)
      refine Ar.i64 (by omega) (by omega) ?_
      refine Ar.i64 (by omega) (by omega) ?_
      refine Ar.i64 (by omega) (by omega) ?_
      refine StillVC.run (StillVC.remE rfl rfl (by omega) (by omega) ?_)
      refine Ar.i64 (by omega) (by omega) ?_
      refine ⟨rfl, ?_⟩
      exact ⟨⟨i + 1, by omega, by rw [sn]; rfl, rfl⟩, by simp; omega⟩
    · obtain rfl : i = l.length := by omega
      rw [List.take_length]
      refine StillVC.run (StillVC.lenS rfl str9 ?_)
      refine Br.dec (fun hc => absurd hc (by omega)) (fun c31 => ?_)
      refine RetVC.one rfl ?_
      exact ⟨rfl, .refl _⟩

def placedB (e p : Int) : Bool := decide (0 ≤ e) && decide (e ≤ 1000000000) && decide (0 ≤ p) && decide (p < 4000)

theorem placed_spec (e p : Int) (h : Heap) : SpecR Tryd.prog 22 [.int .i64 e, .int .i64 p] h fun v h' => v = .bool (placedB e p) ∧ Own h [] h' := by
  refine Spec.enter Tryd.func22 rfl Tryd.ntmps22 (by kernel_rfl) ?_
  by_cases h1 : 0 ≤ e
  · by_cases h2 : e ≤ 1000000000
    · by_cases h3 : 0 ≤ p
      · refine Br.dec (fun c10 => ?_) (fun hc => absurd (by omega) hc)
        refine Br.dec (fun c11 => ?_) (fun hc => absurd (by omega) hc)
        refine Br.dec (fun c12 => ?_) (fun hc => absurd (by omega) hc)
        refine RetVC.one rfl ?_
        exact ⟨by simp [placedB, h1, h2, h3], .refl _⟩
      · refine Br.dec (fun c20 => ?_) (fun hc => absurd (by omega) hc)
        refine Br.dec (fun c21 => ?_) (fun hc => absurd (by omega) hc)
        refine Br.dec (fun hc => absurd hc (by omega)) (fun c22 => ?_)
        refine RetVC.one rfl ?_
        exact ⟨by simp [placedB, h1, h2, h3], .refl _⟩
    · refine Br.dec (fun c30 => ?_) (fun hc => absurd (by omega) hc)
      refine Br.dec (fun hc => absurd hc (by omega)) (fun c31 => ?_)
      refine RetVC.one rfl ?_
      exact ⟨by simp [placedB, h1, h2], .refl _⟩
  · refine Br.dec (fun hc => absurd hc (by omega)) (fun c40 => ?_)
    refine RetVC.one rfl ?_
    exact ⟨by simp [placedB, h1], .refl _⟩

theorem refPlaced_spec (e p : Int) (h : Heap) : SpecR Tryd.prog 24 [.int .i64 e, .int .i64 p] h fun v h' => v = .bool (placedB e p) ∧ Own h [] h' := by
  refine Spec.enter Tryd.func24 rfl Tryd.ntmps24 (by kernel_rfl) ?_
  by_cases h1 : 0 ≤ e
  · by_cases h2 : e ≤ 1000000000
    · by_cases h3 : 0 ≤ p
      · refine Br.dec (fun c10 => ?_) (fun hc => absurd (by omega) hc)
        refine Br.dec (fun c11 => ?_) (fun hc => absurd (by omega) hc)
        refine Br.dec (fun c12 => ?_) (fun hc => absurd (by omega) hc)
        refine RetVC.one rfl ?_
        exact ⟨by simp [placedB, h1, h2, h3], .refl _⟩
      · refine Br.dec (fun c20 => ?_) (fun hc => absurd (by omega) hc)
        refine Br.dec (fun c21 => ?_) (fun hc => absurd (by omega) hc)
        refine Br.dec (fun hc => absurd hc (by omega)) (fun c22 => ?_)
        refine RetVC.one rfl ?_
        exact ⟨by simp [placedB, h1, h2, h3], .refl _⟩
    · refine Br.dec (fun c30 => ?_) (fun hc => absurd (by omega) hc)
      refine Br.dec (fun hc => absurd hc (by omega)) (fun c31 => ?_)
      refine RetVC.one rfl ?_
      exact ⟨by simp [placedB, h1, h2], .refl _⟩
  · refine Br.dec (fun hc => absurd hc (by omega)) (fun c40 => ?_)
    refine RetVC.one rfl ?_
    exact ⟨by simp [placedB, h1], .refl _⟩

/- NUMBERS IN BYTES, THE MOST SIGNIFICANT FIRST -/
def byteOf (n : Nat) : UInt8 := UInt8.ofNat (n % 256)

def be (k : Nat) (n : Nat) : List UInt8 := (List.range k).map fun i => byteOf (n / 256 ^ (k - 1 - i))

theorem byteOf_toNat (n : Nat) : (byteOf n).toNat = n % 256 := by
  unfold byteOf; rw [UInt8.toNat_ofNat']; omega

theorem be_length (k n : Nat) : (be k n).length = k := by simp [be]

theorem be_get {k n c : Nat} (h : c < k) : (be k n)[c]? = some (byteOf (n / 256 ^ (k - 1 - c))) := by simp [be, h]

/-- The number that bytes are. -/
def unbe (l : List UInt8) : Nat := l.foldl (fun n c => n * 256 + c.toNat) 0

theorem unbe_snoc (l : List UInt8) (c : UInt8) : unbe (l ++ [c]) = unbe l * 256 + c.toNat := by simp [unbe]

theorem be_succ (k n : Nat) : be (k + 1) n = be k (n / 256) ++ [byteOf n] := by
  unfold be
  rw [List.range_succ, List.map_append, List.map_singleton]
  congr 1
  · refine List.map_congr_left fun i hi => ?_
    have hi' : i < k := by simpa using hi
    have : k + 1 - 1 - i = (k - 1 - i) + 1 := by omega
    rw [this, Nat.pow_succ, Nat.mul_comm, Nat.div_div_eq_div_mul]
  · simp

theorem unbe_be (k : Nat) : ∀ n, n < 256 ^ k → unbe (be k n) = n := by
  induction k with
  | zero => intro n h; simp at h; subst h; rfl
  | succ k ih =>
    intro n h
    rw [be_succ, unbe_snoc, ih _ (by rw [Nat.pow_succ] at h; omega), byteOf_toNat]
    omega

theorem be_inj {k n m : Nat} (hn : n < 256 ^ k) (hm : m < 256 ^ k) (h : be k n = be k m) : n = m := by
  rw [← unbe_be k n hn, h, unbe_be k m hm]

end Go.Proofs.YtihnelncimkegaaDoor
