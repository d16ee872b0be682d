/-
  Plain laws of chapter 45: a sector is got back; one byte changed changes the sum; parts.
-/
import Derived.Test.YtihnelncimkegaaDoorStructs
import Derived.Test.YtihnelncimkegaaDoorFnGet
import Derived.Test.YtihnelncimkegaaDoorFnJoin
namespace Go.Proofs.YtihnelncimkegaaDoor
open Go

theorem putL_shape (e p : Nat) (b : List UInt8) : putL e p b = be 8 e ++ (be 4 p ++ (be 4 b.length ++ (b ++ (List.replicate (40 - b.length) 0 ++ be 8 (sumL (preL e p b)).toNat)))) := by
  simp [putL, preL]

theorem putL_len {e p : Nat} {b : List UInt8} (h : b.length ≤ 40) : (putL e p b).length = 64 := by
  simp [putL, preL_length h, be_length]

theorem e8_put (e p : Nat) (b : List UInt8) : e8 (putL e p b) = be 8 e := by
  rw [putL_shape, e8, List.drop_zero, List.take_append_of_le_length (by simp [be_length]), List.take_of_length_le (by simp [be_length])]

theorem p4_put (e p : Nat) (b : List UInt8) : p4 (putL e p b) = be 4 p := by
  rw [putL_shape, p4, List.take_append, List.drop_append]
  simp only [be_length]
  rw [List.take_of_length_le (by simp [be_length]), List.drop_of_length_le (by simp [be_length]), List.nil_append, List.take_append_of_le_length (by simp [be_length]), List.take_of_length_le (by simp [be_length]), be_length]
  rfl

theorem n4_put (e p : Nat) (b : List UInt8) : n4 (putL e p b) = be 4 b.length := by
  rw [putL_shape, ← List.append_assoc, n4, List.take_append, List.drop_append]
  simp only [List.length_append, be_length]
  rw [List.take_of_length_le (by simp [be_length]), List.drop_of_length_le (by simp [be_length]), List.nil_append, List.take_append_of_le_length (by simp [be_length]), List.take_of_length_le (by simp [be_length]), List.length_append, be_length, be_length]
  rfl

theorem body_put {e p : Nat} {b : List UInt8} (h : b.length ≤ 40) : bodyOf (putL e p b) = b := by
  rw [bodyOf, n4_put, unbe_be 4 _ (by omega), putL_shape, ← List.append_assoc, ← List.append_assoc, List.take_append, List.drop_append]
  simp only [List.length_append, be_length]
  rw [List.take_of_length_le (by simp [be_length]), List.drop_of_length_le (by simp [be_length]), List.nil_append, List.take_append_of_le_length (by simp [be_length]), List.take_of_length_le (by simp [be_length])]
  simp [be_length]

theorem ok_put {e p : Int} {b : List UInt8} (hp : placedB e p = true) (h : b.length ≤ 40) : okS (putL e.toNat p.toNat b) = true ∧ (unbe (e8 (putL e.toNat p.toNat b)) : Int) = e ∧ (unbe (p4 (putL e.toNat p.toNat b)) : Int) = p ∧ bodyOf (putL e.toNat p.toNat b) = b := by
  have hb := placedB_spec hp
  have h1 : (unbe (e8 (putL e.toNat p.toNat b)) : Int) = e := by rw [e8_put, unbe_be 8 _ (by omega)]; omega
  have h2 : (unbe (p4 (putL e.toNat p.toNat b)) : Int) = p := by rw [p4_put, unbe_be 4 _ (by omega)]; omega
  refine ⟨?_, h1, h2, body_put h⟩
  unfold okS
  rw [h1, h2, body_put h, n4_put, unbe_be 4 _ (by omega), putL_len h]
  simp [putR, hp, h]

/-- What is got back from a sector that was put. -/
theorem get_put {e p o a : Int} {b : List UInt8} (hp : placedB e p = true) (h : b.length ≤ 40) : getR o a (putL e.toNat p.toNat b) = if placedB o a then (if e = o ∧ p = a then (b, 0) else ([], 21)) else ([], 1) := by
  obtain ⟨h1, h2, h3, h4⟩ := ok_put hp h
  unfold getR
  rw [h1, h2, h3, h4]
  simp

abbrev stepS (s : Int) (b : UInt8) : Int := (s * 257 + b.toNat + 1) % 2147483647

theorem fold_range (l : List UInt8) {s : Int} (h0 : 0 ≤ s) (h1 : s < 2147483647) : 0 ≤ l.foldl stepS s ∧ l.foldl stepS s < 2147483647 := sumL_from l s h0 h1

theorem fold_inj (l : List UInt8) : ∀ {s t : Int}, 0 ≤ s → s < 2147483647 → 0 ≤ t → t < 2147483647 → l.foldl stepS s = l.foldl stepS t → s = t := by
  induction l with
  | nil => intro s t _ _ _ _ h; exact h
  | cons c l ih =>
    intro s t h0 h1 h2 h3 h
    have := ih (s := stepS s c) (t := stepS t c) (Int.emod_nonneg _ (by decide)) (Int.emod_lt_of_pos _ (by decide)) (Int.emod_nonneg _ (by decide)) (Int.emod_lt_of_pos _ (by decide)) h
    unfold stepS at this
    omega

/-- The sums of texts that differ in exactly one byte differ. -/
theorem sum_one {A C : List UInt8} {x y : UInt8} (h : sumL (A ++ x :: C) = sumL (A ++ y :: C)) : x = y := by
  have e (z : UInt8) : sumL (A ++ z :: C) = C.foldl stepS (stepS (sumL A) z) := by simp [sumL, stepS]
  rw [e, e] at h
  have hA := sumL_range A
  have := fold_inj C (Int.emod_nonneg _ (by decide)) (Int.emod_lt_of_pos _ (by decide)) (Int.emod_nonneg _ (by decide)) (Int.emod_lt_of_pos _ (by decide)) h
  unfold stepS at this
  have hx := x.toNat_lt
  have hy := y.toNat_lt
  exact UInt8.toNat_inj.1 (by omega)

theorem set_split {l : List UInt8} {i : Nat} (hi : i < l.length) (c : UInt8) : l.set i c = l.take i ++ c :: l.drop (i + 1) := by
  rw [List.set_eq_take_append_cons_drop, if_pos hi]

theorem self_split {l : List UInt8} {i : Nat} {x : UInt8} (hi : l[i]? = some x) : l = l.take i ++ x :: l.drop (i + 1) := by
  obtain ⟨hl, he⟩ := List.getElem?_eq_some_iff.1 hi
  conv => lhs; rw [← List.take_append_drop i l, List.drop_eq_getElem_cons hl, he]

theorem sum_set {l : List UInt8} {i : Nat} {x c : UInt8} (hi : l[i]? = some x) (h : sumL (l.set i c) = sumL l) : c = x := by
  obtain ⟨hl, he⟩ := List.getElem?_eq_some_iff.1 hi
  rw [set_split hl] at h
  rw [show sumL l = sumL (l.take i ++ x :: l.drop (i + 1)) by rw [← self_split hi]] at h
  exact sum_one h

/-- A sector of which one byte is changed is damaged. -/
theorem rot {e p : Int} {b : List UInt8} (h : b.length ≤ 40) {i : Nat} {x c : UInt8} (hx : (putL e.toNat p.toNat b)[i]? = some x) (hc : c ≠ x) : okS ((putL e.toNat p.toNat b).set i c) = false := by
  rw [Bool.eq_false_iff]
  intro hk
  obtain ⟨-, h2, h3⟩ := okS_spec hk
  obtain ⟨hq, hbl, he⟩ := putR_ok h3
  generalize (unbe (e8 ((putL e.toNat p.toNat b).set i c)) : Int).toNat = e' at he
  generalize (unbe (p4 ((putL e.toNat p.toNat b).set i c)) : Int).toNat = p' at he
  generalize bodyOf ((putL e.toNat p.toNat b).set i c) = b' at he hbl
  have hA := preL_length (e := e.toNat) (p := p.toNat) h
  have hA' := preL_length (e := e') (p := p') hbl
  unfold putL at he hx
  have hs := sumL_range (preL e.toNat p.toNat b)
  have hs' := sumL_range (preL e' p' b')
  generalize preL e.toNat p.toNat b = A at *
  generalize preL e' p' b' = A' at *
  by_cases hi : i < 56
  · rw [List.set_append_left _ _ (by omega)] at he
    obtain ⟨h5, h6⟩ := List.append_inj he (by simp; omega)
    have := be_inj (by omega) (by omega) h6
    rw [List.getElem?_append_left (by omega)] at hx
    have h7 : sumL (A.set i c) = sumL A := by rw [h5]; omega
    exact hc (sum_set hx h7)
  · rw [List.set_append_right _ _ (by omega)] at he
    obtain ⟨h5, h6⟩ := List.append_inj he (by omega)
    rw [List.getElem?_append_right (by omega)] at hx
    subst h5
    rw [← h6] at hx
    obtain ⟨hl, -⟩ := List.getElem?_eq_some_iff.1 hx
    rw [List.getElem?_set_self (by simpa using hl)] at hx
    exact hc (by simpa using hx)

theorem get_rot {e p o a : Int} {b : List UInt8} (h : b.length ≤ 40) {i : Nat} {x c : UInt8} (hx : (putL e.toNat p.toNat b)[i]? = some x) (hc : c ≠ x) (hp : placedB o a = true) : getR o a ((putL e.toNat p.toNat b).set i c) = ([], 20) := by
  unfold getR
  rw [rot h hx hc, if_pos hp]; simp

/-- The number of places at which two texts differ. -/
def diffs : List UInt8 → List UInt8 → Nat
  | x :: a, y :: b => (if x = y then 0 else 1) + diffs a b
  | _, _ => 0

theorem diffs_snoc : ∀ {a b : List UInt8} (x y : UInt8), a.length = b.length → diffs (a ++ [x]) (b ++ [y]) = diffs a b + if x = y then 0 else 1
  | [], [], x, y, _ => by show (if x = y then 0 else 1) + 0 = 0 + _; omega
  | c :: a, d :: b, x, y, h => by
    simp only [List.cons_append, diffs]
    rw [diffs_snoc (a := a) (b := b) x y (by simpa using h)]
    omega

theorem diffs_le (a : List UInt8) : ∀ b, diffs a b ≤ a.length := by
  induction a with
  | nil => intro b; simp [diffs]
  | cons x a ih =>
    intro b
    cases b with
    | nil => simp [diffs]
    | cons y b => have := ih b; simp only [diffs, List.length_cons]; split <;> omega

theorem diffs_zero : ∀ {a b : List UInt8}, a.length = b.length → diffs a b = 0 → a = b
  | [], [], _, _ => rfl
  | x :: a, y :: b, h, hd => by
    simp only [diffs] at hd
    by_cases hxy : x = y
    · rw [if_pos hxy] at hd
      rw [hxy, diffs_zero (a := a) (b := b) (by simpa using h) (by omega)]
    · rw [if_neg hxy] at hd; omega

theorem diffs_one : ∀ {a b : List UInt8}, a.length = b.length → diffs a b = 1 → ∃ A x y C, a = A ++ x :: C ∧ b = A ++ y :: C ∧ x ≠ y
  | [], [], _, h => by simp [diffs] at h
  | x :: a, y :: b, h, hd => by
    simp only [diffs] at hd
    by_cases hxy : x = y
    · rw [if_pos hxy] at hd
      obtain ⟨A, u, v, C, e1, e2, e3⟩ := diffs_one (a := a) (b := b) (by simpa using h) (by omega)
      exact ⟨x :: A, u, v, C, by rw [e1]; rfl, by rw [e2, hxy]; rfl, e3⟩
    · rw [if_neg hxy] at hd
      exact ⟨[], x, y, a, rfl, by rw [diffs_zero (a := a) (b := b) (by simpa using h) (by omega)]; rfl, hxy⟩

theorem sums_differ {a b : List UInt8} (hl : a.length = b.length) (hd : diffs a b = 1) : sumL a ≠ sumL b := by
  obtain ⟨A, x, y, C, rfl, rfl, hxy⟩ := diffs_one hl hd
  exact fun h => hxy (sum_one h)

/- PARTS -/
theorem chunks_shape (s : List UInt8) (hs : s ≠ []) : chunks s ≠ [] ∧ ∀ (i : Nat) (c : List UInt8), (chunks s)[i]? = some c → c.length ≤ 40 ∧ c ≠ [] ∧ (i + 1 < (chunks s).length → c.length = 40) := by
  induction hn : s.length using Nat.strongRecOn generalizing s with
  | _ n ih =>
    by_cases h : s.length ≤ 40
    · rw [chunks_le h]
      refine ⟨by simp, fun i c hc => ?_⟩
      cases i with
      | zero => simp at hc; subst hc; exact ⟨h, hs, by simp⟩
      | succ i => simp at hc
    · rw [chunks_gt (by omega)]
      refine ⟨by simp, fun i c hc => ?_⟩
      obtain ⟨i1, i2⟩ := ih (s.drop 40).length (by simp; omega) (s.drop 40) (fun e => by have := congrArg List.length e; simp at this; omega) rfl
      cases i with
      | zero =>
        simp at hc
        subst hc
        exact ⟨by simp; omega, fun e => by have := congrArg List.length e; simp at this; exact hs this, fun _ => by simp; omega⟩
      | succ i =>
        simp at hc
        obtain ⟨k1, k2, k3⟩ := i2 i c hc
        exact ⟨k1, k2, fun hh => k3 (by simp at hh; omega)⟩

theorem split_shape (t : List UInt8) : splitL t ≠ [] ∧ ∀ (i : Nat) (c : List UInt8), (splitL t)[i]? = some c → c.length ≤ 40 ∧ c ≠ [] ∧ (i + 1 < (splitL t).length → c.length = 40) :=
  chunks_shape (wholeL t) (by simp [wholeL])

theorem joinR_ne {bs : List (List UInt8)} {t : List UInt8} (h : bs ≠ splitL t) : joinR bs ≠ (t, 0) := fun e => h (joinR_ok e)

end Go.Proofs.YtihnelncimkegaaDoor
