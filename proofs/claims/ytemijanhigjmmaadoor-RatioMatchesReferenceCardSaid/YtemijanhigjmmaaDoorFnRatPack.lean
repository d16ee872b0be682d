/-
  What the calculations with ratios give, by the rational numbers.
-/
import Derived.Test.YtemijanhigjmmaaDoorStructs
import Derived.Test.YtemijanhigjmmaaDoorFnRatHead
namespace Go.Proofs.YtemijanhigjmmaaDoor
open Go

/-- What a calculation in range gives, and what one out of range gives. -/
theorem packR_two (q : Rat) : ∃ x y e, packR q = ((x, y), e) ∧ ((e = 0 ∧ okP (x, y) = true ∧ ofP (x, y) = q) ∨ (e = 2 ∧ x = 0 ∧ y = 0 ∧ ∀ p : Int × Int, okP p = true → ofP p ≠ q)) := by
  rcases packR_cases q with ⟨⟨x, y⟩, h, k, e⟩ | ⟨h, k⟩
  · exact ⟨x, y, 0, h, .inl ⟨rfl, k, e⟩⟩
  · exact ⟨0, 0, 2, h, .inr ⟨rfl, rfl, rfl, k⟩⟩

theorem addR_ok {a b : Int × Int} (ha : okP a = true) (hb : okP b = true) : addR a b = packR (ofP a + ofP b) := if_pos ⟨ha, hb⟩
theorem subR_ok {a b : Int × Int} (ha : okP a = true) (hb : okP b = true) : subR a b = packR (ofP a - ofP b) := if_pos ⟨ha, hb⟩
theorem mulR_ok {a b : Int × Int} (ha : okP a = true) (hb : okP b = true) : mulR a b = packR (ofP a * ofP b) := if_pos ⟨ha, hb⟩
theorem divR_ok {a b : Int × Int} (ha : okP a = true) (hb : okP b = true) (h0 : b.1 ≠ 0) : divR a b = packR (ofP a / ofP b) := by
  unfold divR onR
  rw [if_pos ⟨ha, hb⟩, if_neg h0]

theorem okP_i64 {a : Int × Int} (h : okP a = true) : i64P a := by
  obtain ⟨h1, h2, h3, h4⟩ := okP_rng h
  unfold i64P
  omega

end Go.Proofs.YtemijanhigjmmaaDoor
