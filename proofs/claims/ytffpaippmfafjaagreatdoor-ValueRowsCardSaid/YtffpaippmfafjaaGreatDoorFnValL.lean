/-
  Plain facts for the statements on values.
-/
import Derived.Test.YtffpaippmfafjaaGreatDoorStructs
import Derived.Test.YtffpaippmfafjaaGreatDoorFnRefQ
import Derived.Test.YtffpaippmfafjaaGreatDoorFnTst
import Derived.Test.YtffpaippmfafjaaGreatDoorFnRow
namespace Go.Proofs.YtffpaippmfafjaaGreatDoor
open Go

theorem parse_det {s : List UInt8} {k n : Int} {t : List UInt8} {e : Int} (h : ParseR s k n t e) {k' n' : Int} {t' : List UInt8} (hv : validP k' n' t') (he : valT k' n' t' = s) : k = k' ∧ n = n' ∧ t = t' ∧ e = 0 := h.det (parseR_of hv he)

theorem parse_fail {s : List UInt8} {k n : Int} {t : List UInt8} {e : Int} (h : ParseR s k n t e) (hn : ∀ k' n' t', validP k' n' t' → valT k' n' t' ≠ s) : k = 0 ∧ n = 0 ∧ t = [] ∧ e = 4 := h.det (.inr ⟨rfl, rfl, rfl, rfl, hn⟩)

theorem parse_nil {k n : Int} {t : List UInt8} {e : Int} (h : ParseR [] k n t e) : k = 0 ∧ n = 0 ∧ t = [] ∧ e = 4 := parse_fail h fun _ _ _ hv => valT_ne hv

theorem itoa_two (u d : Nat) (hu : u < 10) (hu0 : u ≠ 0) (hd : d < 10) : Lib.itoa ((u * 10 + d : Nat) : Int) = [UInt8.ofNat (48 + u), UInt8.ofNat (48 + d)] := by
  rw [Lib.itoa, if_neg (by omega)]
  have e : Lib.decDigits (u * 10 + d) = Lib.decDigits ((u * 10 + d) / 10) ++ [UInt8.ofNat (48 + (u * 10 + d) % 10)] := by
    rw [Lib.decDigits, dif_neg (by omega)]
  rw [Int.toNat_natCast, e, show (u * 10 + d) / 10 = u by omega, show (u * 10 + d) % 10 = d by omega, Lib.decDigits_one hu]
  rfl

theorem itoa_12 : Lib.itoa 12 = [49, 50] := itoa_two 1 2 (by decide) (by decide) (by decide)
theorem itoa_7 : Lib.itoa 7 = [55] := by
  rw [Lib.itoa, if_neg (by omega)]
  exact Lib.decDigits_one (by decide)

theorem ex_day : ParseR [64, 49, 50] 3 12 [] 0 := by
  have hv : validP 3 12 [] := by decide
  exact parseR_of hv ((valT_day hv).trans (by rw [itoa_12]; rfl))

theorem ex_num : ParseR [49, 50] 2 12 [] 0 := by
  have hv : validP 2 12 [] := by decide
  exact parseR_of hv ((valT_num hv).trans itoa_12)

theorem ex_007 : ParseR [48, 48, 55] 0 0 [] 4 := by
  refine .inr ⟨rfl, rfl, rfl, rfl, fun k n t hv he => ?_⟩
  obtain ⟨rfl, hn, rfl⟩ := guess_num (by decide) k n t hv he
  have e7 : numR [48, 48, 55] = 7 := by decide
  rw [e7] at hn
  subst hn
  rw [valT_num hv, itoa_7] at he
  exact absurd he (by decide)

theorem ex_c1 : CastR 1 0 [49, 50] 2 2 12 [] 0 := by
  unfold CastR
  rw [if_neg (by decide), if_neg (by decide), if_neg (by decide), if_pos rfl]
  exact ⟨2, 12, [], 0, ex_num, by decide⟩
theorem ex_c2 : CastR 1 0 [64, 49, 50] 2 0 0 [] 15 := by
  unfold CastR
  rw [if_neg (by decide), if_neg (by decide), if_neg (by decide), if_pos rfl]
  exact ⟨3, 12, [], 0, ex_day, by decide⟩
theorem ex_c3 : CastR 2 (-1) [] 3 0 0 [] 15 := by
  unfold CastR
  rw [if_neg (by decide), if_neg (by decide), if_neg (by decide), if_neg (by decide), if_neg (by decide), if_neg (by decide)]
  decide
theorem ex_c4 : CastR 2 12 [] 4 0 0 [] 10 := by
  unfold CastR
  rw [if_neg (by decide), if_neg (by decide), if_neg (by decide), if_neg (by decide), if_pos (by decide)]
  decide
theorem ex_c5 : CastR 2 12 [] 0 0 0 [] 1 := by
  unfold CastR
  rw [if_pos (by decide)]
  decide
theorem ex_t : valT 1 0 [97, 34, 98] = [34, 97, 92, 34, 98, 34] := by decide
theorem ex_s1 : testB 2 3 [] 3 2 1 [] 3 = true := by decide
theorem ex_s2 : testB 0 0 [] 1 0 0 [] 0 = false := by decide
theorem ex_o : cmpV 2 9 [] 3 0 [] = -1 := by decide
theorem ex_v : ¬ validP 3 73049 [] := by decide

/- TESTS -/
theorem test_cmp {k n : Int} {t : List UInt8} {n' : Int} {t' : List UInt8} (op : Int) (h : validP k n t) (h' : validP k n' t') (hk : k ≠ 0) : testB k n t op k n' t' 0 = opB op (cmpV k n t k n' t') := by
  unfold testB
  rw [if_neg (fun g => g ⟨h, h', rfl⟩)]
  by_cases h23 : k = 2 ∨ k = 3
  · rw [if_pos h23]
    have et : t = [] := by unfold validP at h; rcases h23 with rfl | rfl <;> simp at h <;> exact h.2.2
    have et' : t' = [] := by unfold validP at h'; rcases h23 with rfl | rfl <;> simp at h' <;> exact h'.2.2
    subst et et'
    have e : cmpV k n [] k n' [] = cmpI (n - n') 0 := by
      unfold cmpV
      rw [if_neg (fun g => g (cmpI_self k))]
      have h1 := cmpI_cases n n'
      have h2 := cmpI_cases (n - n') 0
      have h3 : cmpS [] [] = 0 := rfl
      rw [h3]
      split <;> omega
    rw [e]
  · rw [if_neg h23, if_pos ⟨by unfold validP at h; omega, rfl⟩]

theorem op_less (c : Int) : opB 3 c = decide (c < 0) := by unfold opB; exact decide_eq_decide.2 (by omega)
theorem op_equal (c : Int) : opB 1 c = decide (c = 0) := by unfold opB; exact decide_eq_decide.2 (by omega)
theorem op_unlike (c : Int) : opB 2 c = decide (c ≠ 0) := by unfold opB; exact decide_eq_decide.2 (by omega)
theorem op_most (c : Int) : opB 4 c = decide (c ≤ 0) := by unfold opB; exact decide_eq_decide.2 (by omega)

theorem test_none {k n : Int} {t : List UInt8} {op k' n' : Int} {t' : List UInt8} {add : Int} (h : ¬ validP k n t ∨ ¬ validP k' n' t' ∨ k ≠ k' ∨ k = 0 ∨ op < 1 ∨ 4 < op ∨ (add ≠ 0 ∧ (k = 1 ∨ k = 4))) : testB k n t op k' n' t' add = false := by
  have ho : op < 1 ∨ 4 < op → ∀ c, opB op c = false := fun g c => by unfold opB; exact decide_eq_false (by omega)
  unfold testB
  split
  · rfl
  · rename_i g
    have g : validP k n t ∧ validP k' n' t' ∧ k = k' := Decidable.not_not.1 g
    obtain ⟨g1, g2, g3⟩ := g
    rcases h with h | h | h | h | h | h | h
    · exact absurd g1 h
    · exact absurd g2 h
    · exact absurd g3 h
    · subst h; rw [if_neg (by omega), if_neg (by omega)]
    · split
      · exact ho (.inl h) _
      · split
        · exact ho (.inl h) _
        · rfl
    · split
      · exact ho (.inr h) _
      · split
        · exact ho (.inr h) _
        · rfl
    · rw [if_neg (by omega), if_neg (by omega)]

theorem test_null {k n : Int} {t : List UInt8} {op : Int} {add : Int} : testB k n t op 0 0 [] add = false := by
  by_cases h : k = 0
  · exact test_none (.inr (.inr (.inr (.inl h))))
  · exact test_none (.inr (.inr (.inl h)))

theorem test_null' {k n : Int} {t : List UInt8} {op : Int} {add : Int} : testB 0 0 [] op k n t add = false := test_none (.inr (.inr (.inr (.inl rfl))))

theorem test_num {a b op add : Int} (ha : -1000000000 ≤ a ∧ a ≤ 1000000000) (hb : -1000000000 ≤ b ∧ b ≤ 1000000000) : testB 2 a [] op 2 b [] add = opB op (cmpI (a - b) add) := by
  unfold testB
  rw [if_neg, if_pos (.inl rfl)]
  intro g
  refine g ⟨?_, ?_, rfl⟩
  · unfold validP; simp; omega
  · unfold validP; simp; omega

theorem op_shift (op a b : Int) : opB op (cmpI (a - b) 0) = opB op (cmpI a b) := by
  have h1 := cmpI_cases (a - b) 0
  have h2 := cmpI_cases a b
  have : cmpI (a - b) 0 = cmpI a b := by omega
  rw [this]

theorem op_less_most (a b : Int) : opB 3 (cmpI a b) = opB 4 (cmpI a (b - 1)) := by
  have h1 := cmpI_cases a b
  have h2 := cmpI_cases a (b - 1)
  rw [op_less, op_most]
  exact decide_eq_decide.2 (by omega)

end Go.Proofs.YtffpaippmfafjaaGreatDoor
