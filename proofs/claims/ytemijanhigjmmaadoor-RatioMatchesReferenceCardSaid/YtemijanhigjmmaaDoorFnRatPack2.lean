/-
  The comparisons of ratios, by the rational numbers.
-/
import Derived.Test.YtemijanhigjmmaaDoorStructs
import Derived.Test.YtemijanhigjmmaaDoorFnRatPack
namespace Go.Proofs.YtemijanhigjmmaaDoor
open Go

theorem cmpR_ok {a b : Int × Int} (ha : okP a = true) (hb : okP b = true) : cmpR a b = if ofP a < ofP b then -1 else if ofP b < ofP a then 1 else 0 := if_pos ⟨ha, hb⟩

theorem cmpR_rng (a b : Int × Int) : -1 ≤ cmpR a b ∧ cmpR a b ≤ 1 := by
  unfold cmpR
  split
  · split
    · decide
    · split <;> decide
  · decide

theorem cmpR_rev (a b : Int × Int) : cmpR b a = -cmpR a b := by
  unfold cmpR
  by_cases ha : okP a = true
  · by_cases hb : okP b = true
    · simp only [ha, hb, and_self, if_true]
      by_cases h1 : ofP a < ofP b
      · have h2 : ¬ ofP b < ofP a := by grind
        simp [h1, h2]
      · by_cases h2 : ofP b < ofP a
        · simp [h1, h2]
        · simp [h1, h2]
    · simp [hb]
  · simp [ha]

theorem ofP_lt_irrefl (a : Rat) : ¬ a < a := by grind

theorem cmpR_zero {a b : Int × Int} (ha : okP a = true) (hb : okP b = true) : cmpR a b = 0 ↔ a = b := by
  rw [cmpR_ok ha hb]
  by_cases h1 : ofP a < ofP b
  · rw [if_pos h1]
    exact ⟨fun h => absurd h (by decide), fun h => absurd (h ▸ h1) (ofP_lt_irrefl _)⟩
  · rw [if_neg h1]
    by_cases h2 : ofP b < ofP a
    · rw [if_pos h2]
      exact ⟨fun h => absurd h (by decide), fun h => absurd (h ▸ h2) (ofP_lt_irrefl _)⟩
    · rw [if_neg h2]
      exact ⟨fun _ => ofP_inj ha hb (by grind), fun _ => rfl⟩

theorem cmpR_le {a b : Int × Int} (ha : okP a = true) (hb : okP b = true) : cmpR a b ≤ 0 ↔ ofP a ≤ ofP b := by
  rw [cmpR_ok ha hb]
  by_cases h1 : ofP a < ofP b
  · rw [if_pos h1]
    exact ⟨fun _ => by grind, fun _ => by decide⟩
  · rw [if_neg h1]
    by_cases h2 : ofP b < ofP a
    · rw [if_pos h2]
      exact ⟨fun h => absurd h (by decide), fun h => by grind⟩
    · rw [if_neg h2]
      exact ⟨fun _ => by grind, fun _ => by decide⟩

theorem cmpR_ge {a b : Int × Int} (ha : okP a = true) (hb : okP b = true) : 0 ≤ cmpR a b ↔ ofP b ≤ ofP a := by
  rw [← cmpR_le hb ha, cmpR_rev]
  omega

theorem mul_le1 {A B : Rat} (h0 : 0 ≤ A) (h1 : B ≤ 1) : A * B ≤ A := by
  have := Rat.mul_le_mul_of_nonneg_left h1 h0
  rwa [Rat.mul_one] at this

theorem div01 {A B : Rat} (h0 : 0 ≤ A) (h1 : A ≤ B) (hB : B ≠ 0) : 0 ≤ A / B ∧ A / B ≤ 1 := by
  have hp : 0 < B := by grind
  have e : A / B * B = A := by grind
  constructor
  · exact Rat.le_of_mul_le_mul_right (by rw [e, Rat.zero_mul]; exact h0) hp
  · exact Rat.le_of_mul_le_mul_right (by rw [e, Rat.one_mul]; exact h1) hp

theorem zero_pair {x y : Int} (k : okP (x, y) = true) (hz : x = 0) : (x, y) = (0, 1) := by
  subst hz
  obtain ⟨h1, h2, h3, h4⟩ := okP_iff.1 k
  simp at h4 h1
  have : y = 1 := by omega
  rw [this]

theorem divR_zero {a b : Int × Int} (ha : okP a = true) (hb : okP b = true) (h0 : b.1 = 0) : divR a b = ((0, 0), 1) := by
  unfold divR onR
  rw [if_pos ⟨ha, hb⟩, if_pos h0]

theorem e0 : ofP (0, 1) = 0 := by decide +kernel
theorem e1 : ofP (1, 1) = 1 := by decide +kernel
theorem kzero : okP (0, 1) = true := by decide +kernel
theorem kone : okP (1, 1) = true := by decide +kernel

end Go.Proofs.YtemijanhigjmmaaDoor
