/-
  Plain facts on the lexer's readers (printed out of the texts of the other seat of this chapter).
-/
import Derived.Test.YtofbiladpmcjgaaGreatDoorStructs
import Derived.Test.YtofbiladpmcjgaaGreatDoorFnLex
namespace Go.Proofs.YtofbiladpmcjgaaGreatDoor
open Go



theorem gapF_step {t : List UInt8} {j : Nat} {c : UInt8} (k : Bool) (hc : t[j]? = some c) :
    gapF k (t.drop j) = if c.toNat = 10 then 1 + gapF false (t.drop (j + 1)) else if c.toNat = 35 then 1 + gapF true (t.drop (j + 1)) else if k = false ∧ c.toNat ≠ 32 ∧ c.toNat ≠ 9 then 0 else 1 + gapF k (t.drop (j + 1)) := by
  obtain ⟨hj, rfl⟩ := List.getElem?_eq_some_iff.1 hc
  rw [List.drop_eq_getElem_cons hj, gapF]


theorem prefix2_iff {t : List UInt8} {i : Nat} {a b : UInt8} : Lib.hasPrefix (t.drop i) [a, b] = true ↔ t[i]? = some a ∧ t[i + 1]? = some b := by
  have h1 : (t.drop i)[0]? = t[i]? := by rw [List.getElem?_drop]; rfl
  have h2 : (t.drop i)[1]? = t[i + 1]? := by rw [List.getElem?_drop]
  rw [← h1, ← h2]
  generalize t.drop i = l
  unfold Lib.hasPrefix
  match l with
  | [] => simp
  | [x] => simp [List.isPrefixOf]
  | x :: y :: r =>
    rw [List.isPrefixOf_iff_prefix, List.cons_prefix_cons, List.cons_prefix_cons]
    simp only [List.nil_prefix, and_true, List.getElem?_cons_zero, List.getElem?_cons_succ, Option.some.injEq]
    exact ⟨fun h => ⟨h.1.symm, h.2.symm⟩, fun h => ⟨h.1.symm, h.2.symm⟩⟩




/- WHICH READER FINDS SOMETHING -/
theorem quoF_some : ∀ (l acc : List UInt8) (k : Nat), quoF l acc k ≠ .none
  | [], _, _ => by simp [quoF]
  | [c], acc, k => by
    rw [quoF]
    split
    · split <;> simp
    · split <;> simp
  | c :: d :: r, acc, k => by
    rw [quoF]
    split
    · split <;> simp
    · split
      · simp
      · split
        · split
          · simp
          · exact quoF_some r _ _
        · exact quoF_some (d :: r) _ _


theorem quoF_err : ∀ (l acc : List UInt8) (k : Nat) {e : Int}, quoF l acc k = .err e → e = 3 ∨ e = 5 ∨ e = 7
  | [], _, _, _, h => by cases h; omega
  | [c], acc, k, _, h => by
    rw [quoF] at h
    split at h
    · split at h <;> cases h
      omega
    · split at h <;> cases h <;> omega
  | c :: d :: r, acc, k, _, h => by
    rw [quoF] at h
    split at h
    · split at h <;> cases h
      omega
    · split at h
      · cases h; omega
      · split at h
        · split at h
          · cases h; omega
          · exact quoF_err r _ _ h
        · exact quoF_err (d :: r) _ _ h


theorem quoF_tok : ∀ (l acc : List UInt8) (k : Nat) {kd n : Int} {x : List UInt8} {len : Nat}, quoF l acc k = .tok kd x n len → kd = 3 ∧ n = 0
  | [], _, _, _, _, _, _, h => by cases h
  | [c], acc, k, _, _, _, _, h => by
    rw [quoF] at h
    split at h
    · split at h <;> cases h
      exact ⟨rfl, rfl⟩
    · split at h <;> cases h
  | c :: d :: r, acc, k, _, _, _, _, h => by
    rw [quoF] at h
    split at h
    · split at h <;> cases h
      exact ⟨rfl, rfl⟩
    · split at h
      · cases h
      · split at h
        · split at h
          · cases h
          · exact quoF_tok r _ _ h
        · exact quoF_tok (d :: r) _ _ h


theorem letter_not {c : UInt8} (h : letterB c = true) : digitB c = false ∧ c.toNat ≠ 34 := by
  simp only [letterB, digitB, decide_eq_true_eq, decide_eq_false_iff_not] at *
  omega

theorem digit_not {c : UInt8} (h : digitB c = true) : c.toNat ≠ 34 := by
  simp only [digitB, decide_eq_true_eq] at *
  omega


theorem readR_letter {c : UInt8} {r : List UInt8} (hc : letterB c = true) : readR (c :: r) = if 24 < spanN innerB (c :: r) then .err 3 else .tok 1 ((c :: r).take (spanN innerB (c :: r))) 0 (spanN innerB (c :: r)) := by
  have : nameR (c :: r) = if 24 < spanN innerB (c :: r) then .err 3 else .tok 1 ((c :: r).take (spanN innerB (c :: r))) 0 (spanN innerB (c :: r)) := by rw [nameR, if_pos hc]
  unfold readR readers readN
  rw [this]
  by_cases h : 24 < spanN innerB (c :: r)
  · simp only [if_pos h]
  · simp only [if_neg h]


theorem name_none {c : UInt8} {r : List UInt8} (hc : letterB c = false) : nameR (c :: r) = .none := by
  rw [nameR, if_neg (by rw [hc]; simp)]


theorem span_zero {p : UInt8 → Bool} {c : UInt8} {r : List UInt8} (hc : p c = false) : spanN p (c :: r) = 0 := by
  unfold spanN; rw [List.takeWhile_cons, hc]; rfl


theorem readR_digit {c : UInt8} {r : List UInt8} (hl : letterB c = false) (hc : digitB c = true) : readR (c :: r) = if 10 < spanN digitB (c :: r) ∨ spanN digitB (c :: r) < spanN innerB (c :: r) then .err 6 else .tok 2 ((c :: r).take (spanN digitB (c :: r))) (undec ((c :: r).take (spanN digitB (c :: r)))) (spanN digitB (c :: r)) := by
  have h0 : ¬ spanN digitB (c :: r) = 0 := by have := spanN_pos (r := r) hc; omega
  unfold readR readers readN
  rw [name_none hl]
  simp only [readN, numberR, if_neg h0]
  by_cases h : 10 < spanN digitB (c :: r) ∨ spanN digitB (c :: r) < spanN innerB (c :: r)
  · simp only [if_pos h]
  · simp only [if_neg h]


theorem number_none {c : UInt8} {r : List UInt8} (hc : digitB c = false) : numberR (c :: r) = .none := by
  rw [numberR, if_pos (span_zero hc)]


theorem readR_quote {c : UInt8} {r : List UInt8} (hl : letterB c = false) (hd : digitB c = false) (hc : c.toNat = 34) : readR (c :: r) = quoF r [] 0 := by
  unfold readR readers readN
  rw [name_none hl]
  simp only [readN, number_none hd, quotedR, if_pos hc]
  cases h : quoF r [] 0 with
  | none => exact absurd h (quoF_some _ _ _)
  | _ => rfl


theorem readR_symbol {c : UInt8} {r : List UInt8} (hl : letterB c = false) (hd : digitB c = false) (hc : c.toNat ≠ 34) : readR (c :: r) = if symN (c :: r) = 0 then .err 5 else .tok 4 ((c :: r).take (symN (c :: r))) 0 (symN (c :: r)) := by
  unfold readR readers readN
  rw [name_none hl]
  simp only [readN, number_none hd, quotedR, if_neg hc, symbolR]
  by_cases h : symN (c :: r) = 0
  · simp only [if_pos h]
  · simp only [if_neg h]


theorem undec_snoc (l : List UInt8) (c : UInt8) : undec (l ++ [c]) = undec l * 10 + (c.toNat - 48) := by
  simp [undec, List.foldl_append]


/-- The bytes of a kind go on as long as the next byte is of it. -/
theorem span_lt {p q : UInt8 → Bool} (hpq : ∀ c, p c = true → q c = true) : ∀ (l : List UInt8), spanN p l < spanN q l ↔ ∃ c, l[spanN p l]? = some c ∧ q c = true
  | [] => by simp [spanN]
  | a :: l => by
    have ih := span_lt hpq l
    unfold spanN at ih ⊢
    rw [List.takeWhile_cons, List.takeWhile_cons]
    cases hp : p a with
    | false =>
      simp only [Bool.false_eq_true, if_false, List.length_nil]
      cases hq : q a with
      | false => simp [hq]
      | true => simp [hq]
    | true =>
      rw [hpq a hp]
      simp only [if_true, List.length_cons, Nat.add_lt_add_iff_right, List.getElem?_cons_succ]
      exact ih


theorem digit_inner {c : UInt8} (h : digitB c = true) : innerB c = true := by simp [innerB, h]


theorem slice_at (t : List UInt8) (i n : Nat) : List.drop (i : Int).toNat (List.take ((i : Int) + (n : Nat)).toNat t) = (t.drop i).take n := by
  rw [show ((i : Int) + (n : Nat)).toNat = i + n by omega, Int.toNat_natCast, List.drop_take]
  congr 1
  omega


theorem undec_lt (l : List UInt8) (h : ∀ c ∈ l, digitB c = true) : undec l < 10 ^ l.length := by
  have key : ∀ (r : List UInt8), (∀ c ∈ r, digitB c = true) → undec r.reverse < 10 ^ r.length := by
    intro r
    induction r with
    | nil => intro _; simp [undec]
    | cons c r ih =>
      intro h
      have h1 := ih (fun d hd => h d (by simp [hd]))
      have h2 := digitB_iff (h c (by simp))
      rw [List.reverse_cons, undec_snoc, List.length_cons, Nat.pow_succ]
      omega
  have := key l.reverse (fun c hc => h c (by simpa using hc))
  simpa using this




theorem readR_err {l : List UInt8} {e : Int} (h : readR l = .err e) : e = 3 ∨ e = 5 ∨ e = 6 ∨ e = 7 := by
  cases l with
  | nil =>
    have : readR [] = .err 5 := rfl
    rw [this] at h
    cases h; omega
  | cons c r =>
    cases hl : letterB c with
    | true =>
      rw [readR_letter hl] at h
      split at h <;> cases h
      omega
    | false =>
      cases hd : digitB c with
      | true =>
        rw [readR_digit hl hd] at h
        split at h <;> cases h
        omega
      | false =>
        by_cases h34 : c.toNat = 34
        · rw [readR_quote hl hd h34] at h
          have := quoF_err _ _ _ h
          omega
        · rw [readR_symbol hl hd h34] at h
          split at h <;> cases h
          omega


theorem readR_some (l : List UInt8) : readR l ≠ .none := by
  have key : ∀ rs, readN rs l ≠ .none := by
    intro rs
    induction rs with
    | nil => simp [readN]
    | cons r rs ih =>
      rw [readN]
      split
      · exact ih
      · assumption
  exact key _




theorem lexGo_bound : ∀ (f : Nat) (l : List UInt8) (i k : Nat) {ts : List Tok}, lexGo f l i k = .ok ts → ts.length ≤ l.length ∧ ∀ x ∈ ts, i ≤ x.off ∧ x.off < i + l.length
  | 0, l, i, k, ts, h => by cases h; simp
  | f + 1, l, i, k, ts, h => by
    cases l with
    | nil => rw [lexGo_nil] at h; cases h; simp
    | cons c r =>
      rw [lexGo] at h
      cases hR : readR (c :: r) with
      | none => rw [hR] at h; cases h
      | err e => rw [hR] at h; cases h
      | tok kd x n len =>
        rw [hR] at h
        simp only at h
        obtain ⟨h1, h2⟩ := readR_len hR
        split at h
        · cases h
        · have hg := gapF_le false ((c :: r).drop len)
          generalize hg' : gapF false ((c :: r).drop len) = g at *
          cases hrest : lexGo f ((c :: r).drop (len + g)) (i + (len + g)) (k + 1) with
          | error e => rw [hrest] at h; cases h
          | ok us =>
            rw [hrest] at h
            cases h
            obtain ⟨q1, q2⟩ := lexGo_bound f _ _ _ hrest
            simp only [List.length_drop] at q1 q2 hg
            refine ⟨by simp at *; omega, fun y hy => ?_⟩
            rcases List.mem_cons.1 hy with rfl | hy
            · simp
            · have := q2 y hy
              simp at *
              omega


theorem lexM_bound {t : List UInt8} {ts : List Tok} (h : lexM t = .ok ts) : ts.length ≤ t.length ∧ ∀ x ∈ ts, x.off < t.length := by
  obtain ⟨h1, h2⟩ := lexGo_bound _ _ _ _ h
  have hg := gapF_le false t
  simp only [List.length_drop] at h1 h2
  exact ⟨by omega, fun x hx => by have := h2 x hx; omega⟩


end Go.Proofs.YtofbiladpmcjgaaGreatDoor
