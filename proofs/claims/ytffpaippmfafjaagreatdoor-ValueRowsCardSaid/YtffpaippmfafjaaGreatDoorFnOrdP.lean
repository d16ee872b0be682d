/-
  Plain facts on the order of values.
-/
import Derived.Test.YtffpaippmfafjaaGreatDoorStructs
namespace Go.Proofs.YtffpaippmfafjaaGreatDoor
open Go

def cmpI (a b : Int) : Int := if a < b then -1 else if b < a then 1 else 0

def cmpS : List UInt8 → List UInt8 → Int
  | [], [] => 0
  | [], _ :: _ => -1
  | _ :: _, [] => 1
  | a :: x, b :: y => if a.toNat < b.toNat then -1 else if b.toNat < a.toNat then 1 else cmpS x y

theorem cmpI_cases (a b : Int) : (a < b ∧ cmpI a b = -1) ∨ (a = b ∧ cmpI a b = 0) ∨ (b < a ∧ cmpI a b = 1) := by
  unfold cmpI
  by_cases h1 : a < b
  · rw [if_pos h1]; exact .inl ⟨h1, rfl⟩
  · by_cases h2 : b < a
    · rw [if_neg h1, if_pos h2]; exact .inr (.inr ⟨h2, rfl⟩)
    · rw [if_neg h1, if_neg h2]; exact .inr (.inl ⟨by omega, rfl⟩)

theorem cmpS_rng : ∀ (a b : List UInt8), cmpS a b = -1 ∨ cmpS a b = 0 ∨ cmpS a b = 1
  | [], [] => .inr (.inl rfl)
  | [], _ :: _ => .inl rfl
  | _ :: _, [] => .inr (.inr rfl)
  | a :: x, b :: y => by
    have ih := cmpS_rng x y
    rw [cmpS]
    split
    · exact .inl rfl
    · split
      · exact .inr (.inr rfl)
      · exact ih

theorem cmpS_zero : ∀ (a b : List UInt8), cmpS a b = 0 ↔ a = b
  | [], [] => by simp [cmpS]
  | [], _ :: _ => by simp [cmpS]
  | _ :: _, [] => by simp [cmpS]
  | a :: x, b :: y => by
    have ih := cmpS_zero x y
    rw [cmpS]
    split
    · rename_i h
      refine ⟨fun e => by omega, fun e => ?_⟩
      injection e with e1 _
      subst e1; omega
    · split
      · rename_i h
        refine ⟨fun e => by omega, fun e => ?_⟩
        injection e with e1 _
        subst e1; omega
      · rename_i h1 h2
        have : a = b := UInt8.toNat_inj.1 (by omega)
        subst this
        rw [ih]
        simp

theorem cmpS_neg : ∀ (a b : List UInt8), cmpS b a = - cmpS a b
  | [], [] => by simp [cmpS]
  | [], _ :: _ => by simp [cmpS]
  | _ :: _, [] => by simp [cmpS]
  | a :: x, b :: y => by
    have ih := cmpS_neg x y
    rw [cmpS, cmpS]
    by_cases h1 : a.toNat < b.toNat
    · rw [if_pos h1, if_neg (by omega), if_pos h1]; rfl
    · rw [if_neg h1]
      by_cases h2 : b.toNat < a.toNat
      · rw [if_pos h2, if_neg h1, if_pos h2]
      · rw [if_neg h2, if_neg h2, if_neg h1]; exact ih

theorem cmpS_trans : ∀ (a b c : List UInt8), cmpS a b ≤ 0 → cmpS b c ≤ 0 → cmpS a c ≤ 0
  | [], _, [], _, _ => by simp [cmpS]
  | [], _, _ :: _, _, _ => by simp [cmpS]
  | _ :: _, [], _, h, _ => by simp [cmpS] at h
  | _ :: _, _ :: _, [], _, h => by simp [cmpS] at h
  | a :: x, b :: y, c :: z, h1, h2 => by
    have ih := cmpS_trans x y z
    rw [cmpS] at h1 h2 ⊢
    split at h1
    · split at h2
      · rw [if_pos (by omega)]; omega
      · split at h2
        · omega
        · rw [if_pos (by omega)]; omega
    · split at h1
      · omega
      · split at h2
        · rw [if_pos (by omega)]; omega
        · split at h2
          · omega
          · rw [if_neg (by omega), if_neg (by omega)]
            exact ih h1 h2

theorem less_cmp : ∀ (a b : List UInt8), Op.bytesLess a b = decide (cmpS a b = -1)
  | [], [] => by simp [Op.bytesLess, cmpS]
  | [], _ :: _ => by simp [Op.bytesLess, cmpS]
  | _ :: _, [] => by simp [Op.bytesLess, cmpS]
  | a :: x, b :: y => by
    have ih := less_cmp x y
    rw [Op.bytesLess, cmpS]
    by_cases h1 : a.toNat < b.toNat
    · have : a < b := UInt8.lt_iff_toNat_lt.2 h1
      rw [if_pos h1]
      simp [this]
    · have hn : ¬ a < b := fun h => h1 (UInt8.lt_iff_toNat_lt.1 h)
      rw [if_neg h1]
      by_cases h2 : b.toNat < a.toNat
      · have hne : (a == b) = false := beq_eq_false_iff_ne.2 fun e => by subst e; omega
        rw [if_pos h2, hne]
        simp [hn]
      · have he : a = b := UInt8.toNat_inj.1 (by omega)
        subst he
        rw [if_neg h2, ih]
        simp

/- VALUES -/
def cmpV (k n : Int) (t : List UInt8) (k' n' : Int) (t' : List UInt8) : Int :=
  if cmpI k k' ≠ 0 then cmpI k k' else if cmpI n n' ≠ 0 then cmpI n n' else cmpS t t'

theorem cmpI_neg (a b : Int) : cmpI b a = - cmpI a b := by
  rcases cmpI_cases a b with ⟨h, e⟩ | ⟨h, e⟩ | ⟨h, e⟩ <;> rcases cmpI_cases b a with ⟨h', e'⟩ | ⟨h', e'⟩ | ⟨h', e'⟩ <;> omega

theorem cmpV_rng (k n : Int) (t : List UInt8) (k' n' : Int) (t' : List UInt8) : -1 ≤ cmpV k n t k' n' t' ∧ cmpV k n t k' n' t' ≤ 1 := by
  unfold cmpV
  have h1 := cmpI_cases k k'
  have h2 := cmpI_cases n n'
  have h3 := cmpS_rng t t'
  split
  · omega
  · split <;> omega

theorem cmpV_zero (k n : Int) (t : List UInt8) (k' n' : Int) (t' : List UInt8) : cmpV k n t k' n' t' = 0 ↔ k = k' ∧ n = n' ∧ t = t' := by
  unfold cmpV
  have h1 := cmpI_cases k k'
  have h2 := cmpI_cases n n'
  have h3 := cmpS_zero t t'
  split
  · exact ⟨fun h => by omega, fun h => by omega⟩
  · split
    · exact ⟨fun h => by omega, fun h => by omega⟩
    · rw [h3]
      exact ⟨fun h => ⟨by omega, by omega, h⟩, fun h => h.2.2⟩

theorem cmpV_neg (k n : Int) (t : List UInt8) (k' n' : Int) (t' : List UInt8) : cmpV k' n' t' k n t = - cmpV k n t k' n' t' := by
  unfold cmpV
  rw [cmpI_neg k k', cmpI_neg n n', cmpS_neg t t']
  by_cases h1 : cmpI k k' = 0
  · by_cases h2 : cmpI n n' = 0
    · simp [h1, h2]
    · simp [h1, h2]
  · simp [h1]

theorem cmpV_trans (k n : Int) (t : List UInt8) (k' n' : Int) (t' : List UInt8) (k2 n2 : Int) (t2 : List UInt8) (h1 : cmpV k n t k' n' t' ≤ 0) (h2 : cmpV k' n' t' k2 n2 t2 ≤ 0) : cmpV k n t k2 n2 t2 ≤ 0 := by
  unfold cmpV at *
  have a1 := cmpI_cases k k'
  have a2 := cmpI_cases k' k2
  have a3 := cmpI_cases k k2
  have b1 := cmpI_cases n n'
  have b2 := cmpI_cases n' n2
  have b3 := cmpI_cases n n2
  have c := cmpS_trans t t' t2
  split at h1
  · split at h2
    · rw [if_pos (by omega)]; omega
    · rw [if_pos (by omega)]; omega
  · split at h2
    · rw [if_pos (by omega)]; omega
    · rw [if_neg (by omega)]
      split at h1
      · rw [if_pos (by split at h2 <;> omega)]
        split at h2 <;> omega
      · split at h2
        · rw [if_pos (by omega)]; omega
        · rw [if_neg (by omega)]
          exact c h1 h2

end Go.Proofs.YtffpaippmfafjaaGreatDoor
