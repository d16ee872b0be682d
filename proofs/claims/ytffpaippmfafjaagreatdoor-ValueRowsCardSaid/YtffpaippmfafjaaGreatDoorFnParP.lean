/-
  Plain facts on the texts of values: a valid value has one text, and a text belongs to one valid value.
-/
import Derived.Test.YtffpaippmfafjaaGreatDoorStructs
import Derived.Test.YtffpaippmfafjaaGreatDoorFnVal
import Derived.Lib.AtoiTie
namespace Go.Proofs.YtffpaippmfafjaaGreatDoor
open Go

/- TEXTS IN QUOTES -/
def escC (d : UInt8) : Option UInt8 := if d = 34 then some 34 else if d = 92 then some 92 else if d = 110 then some 10 else none

/-- The content between the quotes; behind a backslash or not. -/
def contF : List UInt8 → Bool → Option (List UInt8)
  | [], e => if e then none else some []
  | c :: r, true => match escC c with
    | none => none
    | some x => (contF r false).map (x :: ·)
  | c :: r, false => if c = 92 then contF r true else if c = 34 ∨ c = 10 then none else (contF r false).map (c :: ·)

theorem contF_escS : ∀ (t : List UInt8), contF (escS t) false = some t
  | [] => rfl
  | c :: t => by
    have ih := contF_escS t
    have e : escS (c :: t) = esc1 c ++ escS t := by simp [escS]
    rw [e]
    unfold esc1
    by_cases h34 : c = 34
    · subst h34
      rw [if_pos rfl]
      show contF (92 :: 34 :: escS t) false = _
      rw [contF, if_pos rfl, contF, show escC 34 = some 34 from rfl]
      simp [ih]
    · rw [if_neg h34]
      by_cases h92 : c = 92
      · subst h92
        rw [if_pos rfl]
        show contF (92 :: 92 :: escS t) false = _
        rw [contF, if_pos rfl, contF, show escC 92 = some 92 from rfl]
        simp [ih]
      · rw [if_neg h92]
        by_cases h10 : c = 10
        · subst h10
          rw [if_pos rfl]
          show contF (92 :: 110 :: escS t) false = _
          rw [contF, if_pos rfl, contF, show escC 110 = some 10 from rfl]
          simp [ih]
        · rw [if_neg h10]
          show contF (c :: escS t) false = _
          rw [contF, if_neg h92, if_neg (by rintro (h | h); exact h34 h; exact h10 h), ih]
          rfl

theorem contF_inv : ∀ (r : List UInt8) (t : List UInt8), (contF r false = some t → escS t = r) ∧ (contF r true = some t → escS t = 92 :: r)
  | [], t => by
    constructor
    · intro h; cases h; rfl
    · intro h; cases h
  | c :: r, t => by
    constructor
    · intro h
      rw [contF] at h
      split at h
      · rename_i h92
        subst h92
        exact (contF_inv r t).2 h
      · rename_i h92
        split at h
        · cases h
        · rename_i h2
          cases hr : contF r false with
          | none => rw [hr] at h; cases h
          | some u =>
            rw [hr] at h
            cases h
            have ih := (contF_inv r u).1 hr
            have hs : spc c = false := decide_eq_false (by rintro (h | h | h); exact h2 (.inl h); exact h92 h; exact h2 (.inr h))
            show escS (c :: u) = c :: r
            rw [show escS (c :: u) = esc1 c ++ escS u by simp [escS], esc1_other hs, ih]
            rfl
    · intro h
      rw [contF] at h
      split at h
      · cases h
      · rename_i x hx
        cases hr : contF r false with
        | none => rw [hr] at h; cases h
        | some u =>
          rw [hr] at h
          cases h
          have ih := (contF_inv r u).1 hr
          show escS (x :: u) = 92 :: c :: r
          rw [show escS (x :: u) = esc1 x ++ escS u by simp [escS], ih]
          unfold escC at hx
          split at hx
          · rename_i hc; subst hc; cases hx; rfl
          · split at hx
            · rename_i hc; subst hc; cases hx; rfl
            · split at hx
              · rename_i hc; subst hc; cases hx; rfl
              · cases hx

theorem contF_iff (r t : List UInt8) : contF r false = some t ↔ escS t = r :=
  ⟨(contF_inv r t).1, fun h => by rw [← h]; exact contF_escS t⟩

theorem escS_inj {s t : List UInt8} (h : escS s = escS t) : s = t := by
  have h1 := contF_escS s
  rw [h, contF_escS t] at h1
  exact (Option.some.inj h1).symm

/- NUMERALS -/
theorem itoa_inj {a b : Int} (h : Lib.itoa a = Lib.itoa b) : a = b := by
  unfold Lib.itoa at h
  have n45 : ∀ u, (45 : UInt8) ∉ Lib.decDigits u := fun u => notMem_dec (.inl (by decide)) u
  by_cases ha : a < 0
  · by_cases hb : b < 0
    · rw [if_pos ha, if_pos hb] at h
      have := dec_inj (List.cons.inj h).2
      omega
    · rw [if_pos ha, if_neg hb] at h
      exact absurd (by rw [← h]; simp) (n45 b.toNat)
  · by_cases hb : b < 0
    · rw [if_neg ha, if_pos hb] at h
      exact absurd (by rw [h]; simp) (n45 a.toNat)
    · rw [if_neg ha, if_neg hb] at h
      have := dec_inj h
      omega

theorem digitVal_of {c : UInt8} (h : 48 ≤ c.toNat ∧ c.toNat ≤ 57) : Lib.digitVal c = some (c.toNat - 48) := if_pos h

theorem decFrom_digits : ∀ (l : List UInt8) (acc : Nat), (∀ c ∈ l, 48 ≤ c.toNat ∧ c.toNat ≤ 57) → Lib.decFrom acc l = some (l.foldl (fun n c => n * 10 + (c.toNat - 48)) acc)
  | [], acc, _ => rfl
  | c :: l, acc, h => by
    rw [Lib.decFrom, digitVal_of (h c (by simp))]
    exact decFrom_digits l _ (fun d hd => h d (by simp [hd]))

theorem decNat_dec (u : Nat) : Lib.decNat (Lib.decDigits u) = some u := by
  have hne := dec_ne_nil u
  have hd := dec_digits u
  have hu := undec_dec u
  cases hl : Lib.decDigits u with
  | nil => exact absurd hl hne
  | cons c r =>
    rw [hl] at hd hu
    simp only [Lib.decNat, List.isEmpty_cons, Bool.false_eq_true, if_false]
    rw [decFrom_digits _ _ hd]
    exact congrArg some hu

theorem atoi_itoa (n : Int) : Lib.atoi (Lib.itoa n) = some n := by
  unfold Lib.itoa
  by_cases h : n < 0
  · rw [if_pos h, Lib.atoi, if_pos (by decide : ((45 : UInt8) == 45) = true), decNat_dec]
    simp
    omega
  · rw [if_neg h]
    have hd := dec_digits n.toNat
    have hk := decNat_dec n.toNat
    cases hl : Lib.decDigits n.toNat with
    | nil => exact absurd hl (dec_ne_nil _)
    | cons c r =>
      rw [hl] at hd hk
      have hc := hd c (by simp)
      have h45 : (c == 45) = false := by
        rw [beq_eq_false_iff_ne]; rintro rfl; simp at hc
      have h43 : (c == 43) = false := by
        rw [beq_eq_false_iff_ne]; rintro rfl; simp at hc
      rw [Lib.atoi, h45, h43]
      simp only [Bool.false_eq_true, if_false]
      rw [hk]
      simp
      omega

theorem atoiAll_itoa (n : Int) (h0 : -10000000000 ≤ n) (h1 : n ≤ 10000000000) : Lib.atoiAll (Lib.itoa n) = .ok n := by
  have hlen : (Lib.itoa n).length ≤ 18 := by
    unfold Lib.itoa
    split
    · have : (Lib.decDigits n.natAbs).length ≤ 11 := by rw [Lib.decDigits_length]; exact nDigits_le 10 _ (by omega)
      simp; omega
    · have : (Lib.decDigits n.toNat).length ≤ 11 := by rw [Lib.decDigits_length]; exact nDigits_le 10 _ (by omega)
      omega
  rw [Lib.atoiAll_short _ hlen, atoi_itoa]
  rfl

/-- The first byte of a numeral. -/
theorem itoa_head (n : Int) : ∃ c r, Lib.itoa n = c :: r ∧ (c.toNat = 45 ∨ 48 ≤ c.toNat ∧ c.toNat ≤ 57) := by
  unfold Lib.itoa
  split
  · exact ⟨45, _, rfl, .inl rfl⟩
  · cases hl : Lib.decDigits n.toNat with
    | nil => exact absurd hl (dec_ne_nil _)
    | cons c r =>
      have := dec_digits n.toNat c (by rw [hl]; simp)
      exact ⟨c, r, rfl, .inr this⟩

/- THE TEXT OF A VALUE -/
theorem valT_bad {k n : Int} {t : List UInt8} (h : ¬ validP k n t) : valT k n t = [] := if_pos h

theorem valT_cases {k n : Int} {t : List UInt8} (h : validP k n t) :
    (k = 0 ∧ n = 0 ∧ t = [] ∧ valT k n t = [110, 117, 108, 108]) ∨ (k = 1 ∧ n = 0 ∧ t.length ≤ 200 ∧ valT k n t = [34] ++ escS t ++ [34]) ∨
    (k = 2 ∧ -1000000000 ≤ n ∧ n ≤ 1000000000 ∧ t = [] ∧ valT k n t = Lib.itoa n) ∨ (k = 3 ∧ 0 ≤ n ∧ n ≤ 73048 ∧ t = [] ∧ valT k n t = [64] ++ Lib.itoa n) ∨
    (k = 4 ∧ n = 0 ∧ t = [] ∧ valT k n t = [102, 97, 108, 115, 101]) ∨ (k = 4 ∧ n = 1 ∧ t = [] ∧ valT k n t = [116, 114, 117, 101]) := by
  have e : valT k n t = if k = 1 then [34] ++ escS t ++ [34] else if k = 2 then Lib.itoa n else if k = 3 then [64] ++ Lib.itoa n else if k = 4 then boolT (decide (n = 1)) else [110, 117, 108, 108] := by
    unfold valT
    rw [if_neg (fun hh => hh h)]
  rw [e]
  rcases h with ⟨rfl, rfl, rfl⟩ | ⟨rfl, rfl, hl⟩ | ⟨rfl, h1, h2, rfl⟩ | ⟨rfl, h1, h2, rfl⟩ | ⟨rfl, h1, h2, rfl⟩
  · exact .inl ⟨rfl, rfl, rfl, rfl⟩
  · exact .inr (.inl ⟨rfl, rfl, hl, rfl⟩)
  · exact .inr (.inr (.inl ⟨rfl, h1, h2, rfl, rfl⟩))
  · exact .inr (.inr (.inr (.inl ⟨rfl, h1, h2, rfl, rfl⟩)))
  · rcases (by omega : n = 0 ∨ n = 1) with rfl | rfl
    · exact .inr (.inr (.inr (.inr (.inl ⟨rfl, rfl, rfl, rfl⟩))))
    · exact .inr (.inr (.inr (.inr (.inr ⟨rfl, rfl, rfl, rfl⟩))))

/-- The kind by the first byte of the text. -/
def kindB (c : UInt8) : Int := if c.toNat = 110 then 0 else if c.toNat = 34 then 1 else if c.toNat = 64 then 3 else if c.toNat = 102 ∨ c.toNat = 116 then 4 else 2

theorem valT_head {k n : Int} {t : List UInt8} (h : validP k n t) : ∃ c r, valT k n t = c :: r ∧ kindB c = k := by
  rcases valT_cases h with ⟨rfl, _, _, e⟩ | ⟨rfl, _, _, e⟩ | ⟨rfl, _, _, _, e⟩ | ⟨rfl, _, _, _, e⟩ | ⟨rfl, _, _, e⟩ | ⟨rfl, _, _, e⟩
  · exact ⟨_, _, e, rfl⟩
  · exact ⟨_, _, e, rfl⟩
  · obtain ⟨c, r, e2, hc⟩ := itoa_head n
    refine ⟨c, r, e.trans e2, ?_⟩
    unfold kindB
    rw [if_neg (by omega), if_neg (by omega), if_neg (by omega), if_neg (by omega)]
  · exact ⟨_, _, e, rfl⟩
  · exact ⟨_, _, e, rfl⟩
  · exact ⟨_, _, e, rfl⟩

theorem valT_ne {k n : Int} {t : List UInt8} (h : validP k n t) : valT k n t ≠ [] := by
  obtain ⟨c, r, e, _⟩ := valT_head h
  rw [e]; simp

theorem valT_inj {k n : Int} {t : List UInt8} {k' n' : Int} {t' : List UInt8} (h : validP k n t) (h' : validP k' n' t') (e : valT k n t = valT k' n' t') : k = k' ∧ n = n' ∧ t = t' := by
  obtain ⟨c, r, e1, hc⟩ := valT_head h
  obtain ⟨c', r', e1', hc'⟩ := valT_head h'
  have hk : k = k' := by
    rw [e1, e1'] at e
    rw [← hc, ← hc', (List.cons.inj e).1]
  subst hk
  rcases valT_cases h with ⟨rfl, rfl, rfl, e2⟩ | ⟨rfl, rfl, _, e2⟩ | ⟨rfl, _, _, rfl, e2⟩ | ⟨rfl, _, _, rfl, e2⟩ | ⟨rfl, rfl, rfl, e2⟩ | ⟨rfl, rfl, rfl, e2⟩ <;>
    rcases valT_cases h' with ⟨q, rfl, rfl, e3⟩ | ⟨q, rfl, _, e3⟩ | ⟨q, _, _, rfl, e3⟩ | ⟨q, _, _, rfl, e3⟩ | ⟨q, rfl, rfl, e3⟩ | ⟨q, rfl, rfl, e3⟩ <;>
    first | (exact absurd q (by decide)) | skip
  · exact ⟨rfl, rfl, rfl⟩
  · rw [e2, e3] at e
    have := List.append_cancel_left (List.append_cancel_right e)
    exact ⟨rfl, rfl, escS_inj this⟩
  · rw [e2, e3] at e
    exact ⟨rfl, itoa_inj e, rfl⟩
  · rw [e2, e3] at e
    exact ⟨rfl, itoa_inj (List.cons.inj e).2, rfl⟩
  · exact ⟨rfl, rfl, rfl⟩
  · rw [e2, e3] at e; cases e
  · rw [e2, e3] at e; cases e
  · exact ⟨rfl, rfl, rfl⟩

/- PARSING -/
/-- How parsing a text ends. -/
def ParseR (s : List UInt8) (k n : Int) (t : List UInt8) (e : Int) : Prop :=
  (validP k n t ∧ valT k n t = s ∧ e = 0) ∨ (k = 0 ∧ n = 0 ∧ t = [] ∧ e = 4 ∧ ∀ k' n' t', validP k' n' t' → valT k' n' t' ≠ s)

theorem ParseR.det {s : List UInt8} {k n : Int} {t : List UInt8} {e : Int} {k' n' : Int} {t' : List UInt8} {e' : Int} (h : ParseR s k n t e) (h' : ParseR s k' n' t' e') : k = k' ∧ n = n' ∧ t = t' ∧ e = e' := by
  rcases h with ⟨hv, he, rfl⟩ | ⟨rfl, rfl, rfl, rfl, hn⟩ <;> rcases h' with ⟨hv', he', rfl⟩ | ⟨rfl, rfl, rfl, rfl, hn'⟩
  · obtain ⟨a, b, c⟩ := valT_inj hv hv' (he.trans he'.symm)
    exact ⟨a, b, c, rfl⟩
  · exact absurd he (hn' _ _ _ hv)
  · exact absurd he' (hn _ _ _ hv')
  · exact ⟨rfl, rfl, rfl, rfl⟩

end Go.Proofs.YtffpaippmfafjaaGreatDoor
