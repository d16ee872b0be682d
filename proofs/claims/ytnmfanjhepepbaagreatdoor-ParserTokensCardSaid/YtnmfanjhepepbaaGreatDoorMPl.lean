/-
  Plain facts on texts and their tokens: what a token depends on; texts that are joined, cut, filled with gaps. Reading is local: items hang on the tokens that they read alone; programs that are joined and cut, and their errors. Tokens of texts as the parser wants them: their offsets, beginnings of texts, texts that are joined.
-/
import Derived.Test.YtnmfanjhepepbaaGreatDoorStructs
import Derived.Test.YtnmfanjhepepbaaGreatDoorMLex
import Derived.Test.YtnmfanjhepepbaaGreatDoorMPd
import Derived.Test.YtnmfanjhepepbaaGreatDoorMSm
set_option linter.all false
/- Plain facts on texts and their tokens: what a token depends on; texts that are joined, cut, filled with gaps. -/
namespace Go.Proofs.YtnmfanjhepepbaaGreatDoor
open Go

/- THE TOKENS OF A TEXT, AS A RELATION -/
def consE (x : Tok) : Except (Int × Nat) (List Tok) → Except (Int × Nat) (List Tok)
  | .error e => .error e
  | .ok ts => .ok (x :: ts)

/-- The tokens of a text that begins with no gap. -/
inductive LexR : List UInt8 → Nat → Except (Int × Nat) (List Tok) → Prop
  | nil (i : Nat) : LexR [] i (.ok [])
  | err {l : List UInt8} {i : Nat} {e : Int} (hl : l ≠ []) (h : readR l = .err e) : LexR l i (.error (e, i))
  | tok {l : List UInt8} {i : Nat} {k n : Int} {x : List UInt8} {len : Nat} {r : Except (Int × Nat) (List Tok)} (hl : l ≠ []) (h : readR l = .tok k x n len)
      (hr : LexR ((l.drop len).drop (gapF false (l.drop len))) (i + len + gapF false (l.drop len)) r) : LexR l i (consE ⟨k, x, n, i⟩ r)

/-- The tokens of a text, with gaps ahead. -/
def LexG (l : List UInt8) (i : Nat) (r : Except (Int × Nat) (List Tok)) : Prop := LexR (l.drop (gapF false l)) (i + gapF false l) r

theorem LexR.det {l : List UInt8} {i : Nat} {r r' : Except (Int × Nat) (List Tok)} (h : LexR l i r) (h' : LexR l i r') : r = r' := by
  induction h generalizing r' with
  | nil i =>
    cases h' with
    | nil => rfl
    | err hl _ => exact absurd rfl hl
    | tok hl _ _ => exact absurd rfl hl
  | err hl h =>
    cases h' with
    | nil => exact absurd rfl hl
    | err _ h2 => rw [h] at h2; cases h2; rfl
    | tok _ h2 _ => rw [h] at h2; cases h2
  | tok hl h hr ih =>
    cases h' with
    | nil => exact absurd rfl hl
    | err _ h2 => rw [h] at h2; cases h2
    | tok _ h2 hr2 => rw [h] at h2; cases h2; rw [ih hr2]

theorem lexGo_R : ∀ (f : Nat) (l : List UInt8) (i k : Nat), l.length ≤ f → k + l.length ≤ 5000 → LexR l i (lexGo f l i k)
  | 0, l, i, k, hf, _ => by
    obtain rfl : l = [] := List.eq_nil_of_length_eq_zero (by omega)
    exact .nil i
  | f + 1, l, i, k, hf, hk => by
    cases l with
    | nil => rw [lexGo_nil]; exact .nil i
    | cons c r =>
      rw [lexGo]
      cases hR : readR (c :: r) with
      | none => exact absurd hR (readR_some _)
      | err e => exact .err (by simp) hR
      | tok kd x n len =>
        obtain ⟨h1, h2⟩ := readR_len hR
        simp only
        rw [if_neg (by simp at hk; omega)]
        have hd : ((c :: r).drop (len + gapF false ((c :: r).drop len))) = ((c :: r).drop len).drop (gapF false ((c :: r).drop len)) := by rw [List.drop_drop]
        have hi : i + (len + gapF false ((c :: r).drop len)) = i + len + gapF false ((c :: r).drop len) := by omega
        have ih := lexGo_R f (((c :: r).drop len).drop (gapF false ((c :: r).drop len))) (i + len + gapF false ((c :: r).drop len)) (k + 1) (by simp at hf h2 ⊢; omega) (by simp at hk h2 ⊢; omega)
        rw [hd, hi]
        have := LexR.tok (i := i) (by simp) hR ih
        cases hg : lexGo f (((c :: r).drop len).drop (gapF false ((c :: r).drop len))) (i + len + gapF false ((c :: r).drop len)) (k + 1) with
        | error e => rw [hg] at this; exact this
        | ok ts => rw [hg] at this; exact this

theorem lexM_G {t : List UInt8} (hl : t.length ≤ 5000) : LexG t 0 (lexM t) := by
  unfold LexG lexM
  rw [Nat.zero_add]
  exact lexGo_R _ _ _ _ (by simp) (by simp; omega)

theorem lexM_eq {t : List UInt8} (hl : t.length ≤ 5000) {r : Except (Int × Nat) (List Tok)} (h : LexG t 0 r) : lexM t = r := (lexM_G hl).det h

/- OFFSETS -/
def shiftE (d : Nat) : Except (Int × Nat) (List Tok) → Except (Int × Nat) (List Tok)
  | .error (e, i) => .error (e, i + d)
  | .ok ts => .ok (ts.map fun x => ⟨x.kind, x.text, x.num, x.off + d⟩)

theorem LexR.shift {l : List UInt8} {i : Nat} {r : Except (Int × Nat) (List Tok)} (h : LexR l i r) (d : Nat) : LexR l (i + d) (shiftE d r) := by
  induction h with
  | nil i => exact .nil _
  | err hl h => exact .err hl h
  | @tok l i k n x len r hl h hr ih =>
    have e : i + len + gapF false (l.drop len) + d = i + d + len + gapF false (l.drop len) := by omega
    rw [e] at ih
    have := LexR.tok (i := i + d) hl h ih
    cases r with
    | error y => exact this
    | ok ts => exact this

theorem LexG.shift {l : List UInt8} {i : Nat} {r : Except (Int × Nat) (List Tok)} (h : LexG l i r) (d : Nat) : LexG l (i + d) (shiftE d r) := by
  have := LexR.shift h d
  rwa [show i + gapF false l + d = i + d + gapF false l by omega] at this

/- WHAT A TOKEN DEPENDS ON -/
theorem spanN_cong {p : UInt8 → Bool} : ∀ {l l' : List UInt8} {n : Nat}, n = spanN p l → l'.take n = l.take n → (∀ c, l'[n]? = some c → l[n]? = some c ∨ p c = false) → spanN p l' = n
  | l, l', n, hn, ht, hc => by
    have hle := spanN_le p l
    have hlen : n ≤ l'.length := by
      have := congrArg List.length ht
      simp at this
      omega
    refine spanN_end (fun c hcm => ?_) hlen (fun c hcn => ?_)
    · rw [ht, hn] at hcm
      exact span_take p l c hcm
    · rcases hc c hcn with h | h
      · have hs : ∀ (l : List UInt8) (c : UInt8), l[spanN p l]? = some c → p c = false := by
          intro l
          induction l with
          | nil => intro c h; simp at h
          | cons a l ih =>
            intro c h
            cases ha : p a with
            | false =>
              rw [span_zero ha] at h
              simp at h
              rw [← h]; exact ha
            | true =>
              have : spanN p (a :: l) = spanN p l + 1 := by unfold spanN; rw [List.takeWhile_cons, ha]; simp
              rw [this] at h
              exact ih c (by simpa using h)
        rw [hn] at h
        exact hs l c h
      · exact h

theorem quoF_cong : ∀ (l acc : List UInt8) (m : Nat) {l' : List UInt8} {k n : Int} {x : List UInt8} {len : Nat}, quoF l acc m = .tok k x n len → l'.take (len - m - 1) = l.take (len - m - 1) → quoF l' acc m = .tok k x n len
  | [], acc, m, l', _, _, _, _, h, _ => by cases h
  | [c], acc, m, l', k, n, x, len, h, ht => by
    have hlen := quoF_len _ _ _ h
    rw [quoF] at h
    split at h
    · rename_i hc
      split at h
      · cases h
      · rename_i ha
        injection h with e1 e2 e3 e4
        subst e4 e1 e2 e3
        rw [show m + 2 - m - 1 = 1 by omega] at ht
        cases l' with
        | nil => simp at ht
        | cons d r =>
          simp at ht
          subst ht
          cases r with
          | nil => rw [quoF, if_pos hc, if_neg ha]
          | cons e r => rw [quoF, if_pos hc, if_neg ha]
    · split at h <;> cases h
  | c :: d :: r, acc, m, l', k, n, x, len, h, ht => by
    have hlen := quoF_len _ _ _ h
    rw [quoF] at h
    cases l' with
    | nil =>
      exfalso
      rw [show len - m - 1 = (len - m - 2) + 1 by omega] at ht
      simp at ht
    | cons c' r' =>
      have hc' : c' = c := by
        rw [show len - m - 1 = (len - m - 2) + 1 by omega] at ht
        simp at ht
        exact ht.1
      subst hc'
      by_cases h34 : c'.toNat = 34
      · rw [if_pos h34] at h
        split at h
        · cases h
        · rename_i ha
          injection h with e1 e2 e3 e4
          subst e4 e1 e2 e3
          cases r' with
          | nil => rw [quoF, if_pos h34, if_neg ha]
          | cons e r => rw [quoF, if_pos h34, if_neg ha]
      · rw [if_neg h34] at h
        by_cases h10 : c'.toNat = 10
        · rw [if_pos h10] at h; cases h
        · rw [if_neg h10] at h
          have hrest : r'.take (len - m - 2) = (d :: r).take (len - m - 2) := by
            rw [show len - m - 1 = (len - m - 2) + 1 by omega] at ht
            simpa using ht
          by_cases h92 : c'.toNat = 92
          · rw [if_pos h92] at h
            cases he : escB d with
            | none => rw [he] at h; cases h
            | some y =>
              rw [he] at h
              have hl2 := quoF_len _ _ _ h
              rw [show len - m - 2 = (len - m - 3) + 1 by omega] at hrest
              cases r' with
              | nil => simp at hrest
              | cons d' r'' =>
                simp at hrest
                obtain ⟨rfl, hrest⟩ := hrest
                rw [quoF, if_neg h34, if_neg h10, if_pos h92, he]
                exact quoF_cong r _ _ h (by rw [show len - (m + 2) - 1 = len - m - 3 by omega]; exact hrest)
          · rw [if_neg h92] at h
            have hl2 := quoF_len _ _ _ h
            have ih := quoF_cong (d :: r) _ _ h (l' := r') (by rw [show len - (m + 1) - 1 = len - m - 2 by omega]; exact hrest)
            cases r' with
            | nil =>
              exfalso
              rw [show len - m - 2 = (len - m - 3) + 1 by omega] at hrest
              simp at hrest
            | cons e r3 => rw [quoF, if_neg h34, if_neg h10, if_neg h92]; exact ih

theorem symN_cons (c : UInt8) (r : List UInt8) : symN (c :: r) = if (r[0]? = some 61 ∧ (c = 33 ∨ c = 60)) then 2 else if c ∈ symB then 1 else 0 := by
  have h0 : (c :: r)[0]? = some c := rfl
  have hs := symN_at h0
  have p1 := prefix2_iff (t := c :: r) (i := 0) (a := 33) (b := 61)
  have p2 := prefix2_iff (t := c :: r) (i := 0) (a := 60) (b := 61)
  simp only [List.drop_zero, List.getElem?_cons_zero, Nat.zero_add, List.getElem?_cons_succ, Option.some.injEq] at hs p1 p2
  rw [hs]
  by_cases h : r[0]? = some 61 ∧ (c = 33 ∨ c = 60)
  · rw [if_pos h, if_pos]
    rcases h with ⟨h1, rfl | rfl⟩
    · exact .inl (p1.2 ⟨rfl, h1⟩)
    · exact .inr (p2.2 ⟨rfl, h1⟩)
  · rw [if_neg h, if_neg]
    rintro (e | e)
    · exact h ⟨(p1.1 e).2, .inl (p1.1 e).1⟩
    · exact h ⟨(p2.1 e).2, .inr (p2.1 e).1⟩

theorem span_mono {p q : UInt8 → Bool} (hpq : ∀ c, p c = true → q c = true) : ∀ (l : List UInt8), spanN p l ≤ spanN q l
  | [] => by simp [spanN]
  | a :: l => by
    have ih := span_mono hpq l
    unfold spanN at ih ⊢
    rw [List.takeWhile_cons, List.takeWhile_cons]
    cases hp : p a with
    | false => simp
    | true => rw [hpq a hp]; simpa using ih

theorem readR_cong {l l' : List UInt8} {k n : Int} {x : List UInt8} {len : Nat} (h : readR l = .tok k x n len) (ht : l'.take len = l.take len)
    (hn : ∀ c, l'[len]? = some c → l[len]? = some c ∨ (innerB c = false ∧ c ≠ 61)) : readR l' = .tok k x n len := by
  obtain ⟨hl1, hl2⟩ := readR_len h
  cases l with
  | nil => simp at hl2; omega
  | cons c r =>
    cases l' with
    | nil =>
      exfalso
      have := congrArg List.length ht
      simp at this
      omega
    | cons c' r' =>
      obtain ⟨rfl, htr⟩ : c' = c ∧ r'.take (len - 1) = r.take (len - 1) := by
        rw [show len = (len - 1) + 1 by omega] at ht
        simpa using ht
      have hni : ∀ d, (c' :: r')[len]? = some d → (c' :: r)[len]? = some d ∨ innerB d = false := fun d hd => (hn d hd).imp id (·.1)
      cases hlet : letterB c' with
      | true =>
        rw [readR_letter hlet] at h ⊢
        split at h
        · cases h
        · rename_i h24
          injection h with e1 e2 e3 e4
          have hs : spanN innerB (c' :: r') = len := spanN_cong e4.symm ht hni
          rw [hs, ht, ← e1, ← e2, ← e3, e4, if_neg (by omega)]
      | false =>
        cases hdig : digitB c' with
        | true =>
          rw [readR_digit hlet hdig] at h ⊢
          split at h
          · cases h
          · rename_i h10
            injection h with e1 e2 e3 e4
            have hm := span_mono (p := digitB) (q := innerB) (fun c h => digit_inner h) (c' :: r)
            have hs : spanN digitB (c' :: r') = len := spanN_cong e4.symm ht (fun d hd => (hni d hd).imp id fun hd => by
              cases hh : digitB d with
              | false => rfl
              | true => rw [digit_inner hh] at hd; cases hd)
            have hs2 : spanN innerB (c' :: r') = len := spanN_cong (by omega) ht hni
            rw [hs, hs2, ht, ← e1, ← e2, ← e3, e4, if_neg (by omega)]
        | false =>
          by_cases h34 : c'.toNat = 34
          · rw [readR_quote hlet hdig h34] at h ⊢
            exact quoF_cong _ _ _ h (by rw [Nat.sub_zero]; exact htr)
          · rw [readR_symbol hlet hdig h34] at h ⊢
            split at h
            · cases h
            · rename_i h0
              injection h with e1 e2 e3 e4
              have hs : symN (c' :: r') = len := by
                rw [symN_cons] at e4 ⊢
                by_cases h2 : r[0]? = some 61 ∧ (c' = 33 ∨ c' = 60)
                · rw [if_pos h2] at e4
                  subst e4
                  rw [if_pos]
                  refine ⟨?_, h2.2⟩
                  have a1 : (r'.take 1)[0]? = r'[0]? := by rw [List.getElem?_take]; rfl
                  have a2 : (r.take 1)[0]? = r[0]? := by rw [List.getElem?_take]; rfl
                  rw [← a1, htr, a2]; exact h2.1
                · rw [if_neg h2] at e4
                  split at e4
                  · rename_i hm
                    subst e4
                    rw [if_neg, if_pos hm]
                    rintro ⟨h61, hc⟩
                    have := hn 61 (by simpa using h61)
                    rcases this with h | h
                    · exact h2 ⟨by simpa using h, hc⟩
                    · exact h.2 rfl
                  · omega
              rw [hs, ht, ← e1, ← e2, ← e3, e4, if_neg (by omega)]

/-- A token begins with no gap. -/
theorem tok_gap {l : List UInt8} {k n : Int} {x : List UInt8} {len : Nat} (h : readR l = .tok k x n len) : gapF false l = 0 := by
  cases l with
  | nil => rfl
  | cons c r =>
    have key : c.toNat ≠ 10 ∧ c.toNat ≠ 35 ∧ c.toNat ≠ 32 ∧ c.toNat ≠ 9 := by
      cases hlet : letterB c with
      | true =>
        simp only [letterB, decide_eq_true_eq] at hlet
        omega
      | false =>
        cases hdig : digitB c with
        | true =>
          simp only [digitB, decide_eq_true_eq] at hdig
          omega
        | false =>
          by_cases h34 : c.toNat = 34
          · omega
          · rw [readR_symbol hlet hdig h34, symN_cons] at h
            have : c = 33 ∨ c = 60 ∨ c ∈ symB := by
              by_cases h2 : r[0]? = some 61 ∧ (c = 33 ∨ c = 60)
              · rcases h2.2 with h | h
                · exact .inl h
                · exact .inr (.inl h)
              · rw [if_neg h2] at h
                by_cases hm : c ∈ symB
                · exact .inr (.inr hm)
                · rw [if_neg hm] at h
                  simp at h
            have hall : ∀ d : UInt8, (d = 33 ∨ d = 60 ∨ d ∈ symB) → d.toNat ≠ 10 ∧ d.toNat ≠ 35 ∧ d.toNat ≠ 32 ∧ d.toNat ≠ 9 := by
              intro d hd
              simp only [symB, List.mem_cons, List.not_mem_nil, or_false] at hd
              rcases hd with rfl | rfl | rfl | rfl | rfl | rfl | rfl | rfl | rfl | rfl | rfl | rfl | rfl | rfl | rfl | rfl <;> decide
            exact hall c this
    rw [gapF, if_neg key.1, if_neg key.2.1, if_pos ⟨rfl, key.2.2⟩]

/- GAPS -/
theorem gapF_lt_append : ∀ (k : Bool) (l w : List UInt8), gapF k l < l.length → gapF k (l ++ w) = gapF k l
  | _, [], _, h => by simp at h
  | k, c :: r, w, h => by
    rw [List.cons_append]
    rw [gapF] at h ⊢
    rw [gapF]
    split
    · rename_i h1
      rw [if_pos h1] at h
      rw [gapF_lt_append false r w (by simp at h; omega)]
    · rename_i h1
      rw [if_neg h1] at h
      split
      · rename_i h2
        rw [if_pos h2] at h
        rw [gapF_lt_append true r w (by simp at h; omega)]
      · rename_i h2
        rw [if_neg h2] at h
        split
        · rfl
        · rename_i h3
          rw [if_neg h3] at h
          rw [gapF_lt_append k r w (by simp at h; omega)]

/-- Within a comment, or not, behind these gaps. -/
def gapSt : Bool → List UInt8 → Bool
  | k, [] => k
  | k, c :: r => gapSt (if c.toNat = 10 then false else if c.toNat = 35 then true else k) r

theorem gapF_all_append : ∀ (k : Bool) (l w : List UInt8), gapF k l = l.length → gapF k (l ++ w) = l.length + gapF (gapSt k l) w
  | k, [], w, _ => by simp [gapSt]
  | k, c :: r, w, h => by
    rw [List.cons_append, gapSt]
    rw [gapF] at h
    rw [gapF]
    split
    · rename_i h1
      rw [if_pos h1] at h
      rw [gapF_all_append false r w (by simp at h; omega)]
      simp; omega
    · rename_i h1
      rw [if_neg h1] at h
      split
      · rename_i h2
        rw [if_pos h2] at h
        rw [gapF_all_append true r w (by simp at h; omega)]
        simp; omega
      · rename_i h2
        rw [if_neg h2] at h
        split
        · rename_i h3
          rw [if_pos h3] at h
          simp at h
        · rename_i h3
          rw [if_neg h3] at h
          rw [gapF_all_append k r w (by simp at h; omega)]
          simp; omega

theorem gapF_true_all : ∀ (l : List UInt8), gapF false l = l.length → gapF true l = l.length
  | [], _ => rfl
  | c :: r, h => by
    rw [gapF] at h ⊢
    split
    · rename_i h1
      rw [if_pos h1] at h
      exact h
    · rename_i h1
      rw [if_neg h1] at h
      split
      · rename_i h2
        rw [if_pos h2] at h
        exact h
      · rename_i h2
        rw [if_neg h2] at h
        split at h
        · simp at h
        · rw [if_neg (by simp), gapF_true_all r (by simp at h; omega)]
          simp; omega

theorem gapF_all (k : Bool) {l : List UInt8} (h : gapF false l = l.length) : gapF k l = l.length := by
  cases k with
  | false => exact h
  | true => exact gapF_true_all l h

theorem gapF_take (k : Bool) (l : List UInt8) (m : Nat) (h : gapF k l ≤ m) : gapF k (l.take m) = gapF k l := by
  rcases Nat.lt_or_ge m l.length with hm | hm
  · have hle := gapF_le k (l.take m)
    have e : l.take m ++ l.drop m = l := List.take_append_drop m l
    rcases Nat.lt_or_ge (gapF k (l.take m)) (l.take m).length with h1 | h1
    · have := gapF_lt_append k (l.take m) (l.drop m) h1
      rw [e] at this
      exact this.symm
    · have h2 : gapF k (l.take m) = (l.take m).length := by omega
      have := gapF_all_append k (l.take m) (l.drop m) h2
      rw [e] at this
      simp at *
      omega
  · rw [List.take_of_length_le hm]

theorem gapF_fix : ∀ (k : Bool) (l : List UInt8), gapF k l < l.length → gapF false (l.drop (gapF k l)) = 0
  | _, [], h => by simp at h
  | k, c :: r, h => by
    rw [gapF] at h ⊢
    split
    · rename_i h1
      rw [if_pos h1] at h
      rw [Nat.add_comm, List.drop_succ_cons]
      exact gapF_fix false r (by simp at h; omega)
    · rename_i h1
      rw [if_neg h1] at h
      split
      · rename_i h2
        rw [if_pos h2] at h
        rw [Nat.add_comm, List.drop_succ_cons]
        exact gapF_fix true r (by simp at h; omega)
      · rename_i h2
        rw [if_neg h2] at h
        split
        · rename_i h3
          rw [List.drop_zero, gapF, if_neg h1, if_neg h2, if_pos ⟨rfl, h3.2⟩]
        · rename_i h3
          rw [if_neg h3] at h
          rw [Nat.add_comm, List.drop_succ_cons]
          exact gapF_fix k r (by simp at h; omega)

theorem gapF_nl (k : Bool) (s : List UInt8) : gapF k (10 :: s) = 1 + gapF false s := by rw [gapF, if_pos (by decide)]
theorem gapF_blank (k : Bool) (s : List UInt8) : gapF k (32 :: s) = 1 + gapF k s := by
  rw [gapF, if_neg (by decide), if_neg (by decide), if_neg (by rintro ⟨_, h, _⟩; exact h (by decide))]

/- THE RELATION WITH GAPS -/
theorem LexG.inv_ok {l : List UInt8} {i : Nat} {ts : List Tok} (h : LexG l i (.ok ts)) :
    (ts = [] ∧ gapF false l = l.length) ∨ ∃ k x n len us, readR (l.drop (gapF false l)) = .tok k x n len ∧ gapF false l < l.length ∧ ts = ⟨k, x, n, i + gapF false l⟩ :: us ∧ LexG (l.drop (gapF false l + len)) (i + gapF false l + len) (.ok us) := by
  have hle := gapF_le false l
  unfold LexG at h
  generalize hd : l.drop (gapF false l) = d at h
  generalize hr : (Except.ok ts : Except (Int × Nat) (List Tok)) = r at h
  cases h with
  | nil =>
    injection hr with hr
    have := congrArg List.length hd
    simp at this
    exact .inl ⟨hr, by omega⟩
  | err _ _ => cases hr
  | @tok _ _ k n x len r' hl hR hrest =>
    right
    cases r' with
    | error e => cases hr
    | ok us =>
      injection hr with hr
      have hlt : gapF false l < l.length := by
        have : d.length ≠ 0 := fun e => hl (List.eq_nil_of_length_eq_zero e)
        rw [← hd] at this
        simp at this
        omega
      refine ⟨_, _, _, len, us, hR, hlt, hr, ?_⟩
      unfold LexG
      rw [← hd] at hrest
      simp only [List.drop_drop] at hrest ⊢
      exact hrest

theorem LexG.inv_err {l : List UInt8} {i j : Nat} {e : Int} (h : LexG l i (.error (e, j))) :
    (readR (l.drop (gapF false l)) = .err e ∧ gapF false l < l.length ∧ j = i + gapF false l) ∨ ∃ k x n len, readR (l.drop (gapF false l)) = .tok k x n len ∧ gapF false l < l.length ∧ LexG (l.drop (gapF false l + len)) (i + gapF false l + len) (.error (e, j)) := by
  have hle := gapF_le false l
  unfold LexG at h
  generalize hd : l.drop (gapF false l) = d at h
  generalize hr : (Except.error (e, j) : Except (Int × Nat) (List Tok)) = r at h
  have hlt : d ≠ [] → gapF false l < l.length := fun hl => by
    have : d.length ≠ 0 := fun e => hl (List.eq_nil_of_length_eq_zero e)
    rw [← hd] at this
    simp at this
    omega
  cases h with
  | nil => cases hr
  | err hl hR => cases hr; exact .inl ⟨hR, hlt hl, rfl⟩
  | @tok _ _ k n x len r' hl hR hrest =>
    right
    cases r' with
    | ok us => cases hr
    | error y =>
      cases hr
      refine ⟨_, _, _, len, hR, hlt hl, ?_⟩
      unfold LexG
      rw [← hd] at hrest
      simp only [List.drop_drop] at hrest ⊢
      exact hrest

theorem LexG.all {l : List UInt8} (h : gapF false l = l.length) (i : Nat) : LexG l i (.ok []) := by
  unfold LexG
  rw [List.drop_of_length_le (by omega)]
  exact .nil _

theorem LexG.stop {l : List UInt8} {i : Nat} {e : Int} (hlt : gapF false l < l.length) (hR : readR (l.drop (gapF false l)) = .err e) : LexG l i (.error (e, i + gapF false l)) :=
  LexR.err (fun h => by have := congrArg List.length h; simp at this; omega) hR

theorem LexG.step {l : List UInt8} {i : Nat} {k n : Int} {x : List UInt8} {len : Nat} {r : Except (Int × Nat) (List Tok)} (hlt : gapF false l < l.length) (hR : readR (l.drop (gapF false l)) = .tok k x n len)
    (hr : LexG (l.drop (gapF false l + len)) (i + gapF false l + len) r) : LexG l i (consE ⟨k, x, n, i + gapF false l⟩ r) := by
  refine LexR.tok (fun h => by have := congrArg List.length h; simp at this; omega) hR ?_
  unfold LexG at hr
  simp only [List.drop_drop] at hr ⊢
  exact hr

/- TEXTS THAT ARE JOINED -/
def appE (ts : List Tok) : Except (Int × Nat) (List Tok) → Except (Int × Nat) (List Tok)
  | .error e => .error e
  | .ok us => .ok (ts ++ us)

theorem appE_cons (x : Tok) (ts : List Tok) (r : Except (Int × Nat) (List Tok)) : consE x (appE ts r) = appE (x :: ts) r := by
  cases r <;> rfl

theorem readR_append {d w : List UInt8} {k n : Int} {x : List UInt8} {len : Nat} (h : readR d = .tok k x n len) (hw : ∀ c, w[0]? = some c → innerB c = false ∧ c ≠ 61) : readR (d ++ w) = .tok k x n len := by
  obtain ⟨h1, h2⟩ := readR_len h
  refine readR_cong h (List.take_append_of_le_length h2) fun c hc => ?_
  rcases Nat.lt_or_ge len d.length with hlt | hge
  · rw [List.getElem?_append_left hlt] at hc
    exact .inl hc
  · rw [List.getElem?_append_right hge, show len - d.length = 0 by omega] at hc
    exact .inr (hw c hc)

theorem LexG.appendJ {w : List UInt8} {J : Nat} {R : Except (Int × Nat) (List Tok)} (hw : ∀ c, w[0]? = some c → innerB c = false ∧ c ≠ 61)
    (H : ∀ (st : Bool), LexR (w.drop (gapF st w)) (J + gapF st w) R) :
    ∀ (n : Nat) (l : List UInt8) (i : Nat) (ts : List Tok), l.length ≤ n → i + l.length = J → LexG l i (.ok ts) → LexG (l ++ w) i (appE ts R) := by
  intro n
  induction n with
  | zero =>
    intro l i ts hn hJ h
    obtain rfl : l = [] := List.eq_nil_of_length_eq_zero (by omega)
    rcases h.inv_ok with ⟨rfl, _⟩ | ⟨k, x, n, len, us, _, hlt, _⟩
    · have := H false
      have e : appE [] R = R := by cases R <;> simp [appE]
      unfold LexG
      simp only [List.nil_append]
      rw [e, show i = J by simpa using hJ]
      exact this
    · simp at hlt
  | succ n ih =>
    intro l i ts hn hJ h
    rcases h.inv_ok with ⟨rfl, hall⟩ | ⟨k, x, m, len, us, hR, hlt, rfl, hrest⟩
    · have := H (gapSt false l)
      have e : appE [] R = R := by cases R <;> simp [appE]
      unfold LexG
      rw [e, gapF_all_append false l w hall, List.drop_append, List.drop_of_length_le (by omega), List.nil_append]
      rw [show l.length + gapF (gapSt false l) w - l.length = gapF (gapSt false l) w by omega, show i + (l.length + gapF (gapSt false l) w) = J + gapF (gapSt false l) w by omega]
      exact this
    · obtain ⟨h1, h2⟩ := readR_len hR
      rw [List.length_drop] at h2
      have hg := gapF_lt_append false l w hlt
      have ih' := ih (l.drop (gapF false l + len)) (i + gapF false l + len) us (by rw [List.length_drop]; omega) (by rw [List.length_drop]; omega) hrest
      rw [← appE_cons]
      have st := LexG.step (l := l ++ w) (i := i) (k := k) (n := m) (x := x) (len := len) (r := appE us R) (by rw [hg]; simp; omega)
        (by rw [hg, List.drop_append, show gapF false l - l.length = 0 by omega, List.drop_zero]; exact readR_append hR hw)
        (by
          rw [hg, List.drop_append, show gapF false l + len - l.length = 0 by omega, List.drop_zero]
          exact ih')
      rw [hg] at st
      exact st

theorem LexG.append {w : List UInt8} {W : Nat → Except (Int × Nat) (List Tok)} (hw : ∀ c, w[0]? = some c → innerB c = false ∧ c ≠ 61)
    (H : ∀ (st : Bool) (j : Nat), LexR (w.drop (gapF st w)) (j + gapF st w) (W j)) (n : Nat) (l : List UInt8) (i : Nat) (ts : List Tok) (hn : l.length ≤ n) (h : LexG l i (.ok ts)) : LexG (l ++ w) i (appE ts (W (i + l.length))) :=
  LexG.appendJ hw (fun st => H st _) n l i ts hn rfl h

theorem nl_ok (s : List UInt8) : ∀ c, (10 :: s : List UInt8)[0]? = some c → innerB c = false ∧ c ≠ 61 := by
  intro c hc
  simp only [List.getElem?_cons_zero, Option.some.injEq] at hc
  subst hc
  decide
theorem blank_ok (s : List UInt8) : ∀ c, (32 :: s : List UInt8)[0]? = some c → innerB c = false ∧ c ≠ 61 := by
  intro c hc
  simp only [List.getElem?_cons_zero, Option.some.injEq] at hc
  subst hc
  decide

theorem LexG.join_nl {l s : List UInt8} {i : Nat} {ts : List Tok} {r : Except (Int × Nat) (List Tok)} (h : LexG l i (.ok ts)) (hs : LexG s 0 r) : LexG (l ++ 10 :: s) i (appE ts (shiftE (i + l.length + 1) r)) := by
  refine LexG.append (W := fun j => shiftE (j + 1) r) (nl_ok s) (fun st j => ?_) l.length l i ts (Nat.le_refl _) h
  have := hs.shift (j + 1)
  rw [gapF_nl, Nat.add_comm 1, List.drop_succ_cons]
  unfold LexG at this
  rwa [show 0 + (j + 1) + gapF false s = j + (gapF false s + 1) by omega] at this

/- ERRORS STAY ERRORS -/
theorem spanN_nl {p : UInt8 → Bool} (hp : p 10 = false) (s : List UInt8) : ∀ (l : List UInt8), spanN p (l ++ 10 :: s) = spanN p l
  | [] => by rw [List.nil_append, span_zero hp]; rfl
  | c :: l => by
    have ih := spanN_nl hp s l
    unfold spanN at ih ⊢
    rw [List.cons_append, List.takeWhile_cons, List.takeWhile_cons]
    cases hc : p c with
    | false => rfl
    | true => simpa using ih

theorem quoF_err_nl (s : List UInt8) : ∀ (l acc : List UInt8) (k : Nat) {e : Int}, quoF l acc k = .err e → ∃ e', quoF (l ++ 10 :: s) acc k = .err e'
  | [], acc, k, e, _ => by
    rw [List.nil_append]
    cases s with
    | nil => exact ⟨_, by rw [quoF, if_neg (by decide), if_pos (by decide)]⟩
    | cons d r => exact ⟨_, by rw [quoF, if_neg (by decide), if_pos (by decide)]⟩
  | [c], acc, k, e, h => by
    rw [quoF] at h
    rw [List.cons_append, List.nil_append, quoF]
    split at h
    · rename_i h34
      rw [if_pos h34]
      exact ⟨e, h⟩
    · rename_i h34
      rw [if_neg h34]
      split at h
      · rename_i h10
        rw [if_pos h10]
        exact ⟨5, rfl⟩
      · rename_i h10
        rw [if_neg h10]
        by_cases h92 : c.toNat = 92
        · rw [if_pos h92]
          exact ⟨5, rfl⟩
        · rw [if_neg h92]
          cases s with
          | nil => exact ⟨_, by rw [quoF, if_neg (by decide), if_pos (by decide)]⟩
          | cons d r => exact ⟨_, by rw [quoF, if_neg (by decide), if_pos (by decide)]⟩
  | c :: d :: r, acc, k, e, h => by
    rw [quoF] at h
    rw [List.cons_append, List.cons_append, quoF]
    split at h
    · rename_i h34
      rw [if_pos h34]
      exact ⟨e, h⟩
    · rename_i h34
      rw [if_neg h34]
      split at h
      · rename_i h10
        rw [if_pos h10]
        exact ⟨5, rfl⟩
      · rename_i h10
        rw [if_neg h10]
        split at h
        · rename_i h92
          rw [if_pos h92]
          split at h
          · rename_i hE
            exact ⟨5, rfl⟩
          · rename_i y hE
            exact quoF_err_nl s r _ _ h
        · rename_i h92
          rw [if_neg h92]
          have := quoF_err_nl s (d :: r) _ _ h
          rwa [List.cons_append] at this

theorem readR_err_nl {d : List UInt8} {e : Int} (hd : d ≠ []) (s : List UInt8) (h : readR d = .err e) : ∃ e', readR (d ++ 10 :: s) = .err e' := by
  cases d with
  | nil => exact absurd rfl hd
  | cons c r =>
    rw [List.cons_append]
    cases hlet : letterB c with
    | true =>
      rw [readR_letter hlet] at h ⊢
      rw [← List.cons_append, spanN_nl (by decide)]
      split at h
      · rename_i h24
        rw [if_pos h24]
        exact ⟨_, rfl⟩
      · cases h
    | false =>
      cases hdig : digitB c with
      | true =>
        rw [readR_digit hlet hdig] at h ⊢
        rw [← List.cons_append, spanN_nl (by decide), spanN_nl (by decide)]
        split at h
        · rename_i h24
          rw [if_pos h24]
          exact ⟨_, rfl⟩
        · cases h
      | false =>
        by_cases h34 : c.toNat = 34
        · rw [readR_quote hlet hdig h34] at h ⊢
          exact quoF_err_nl s r _ _ h
        · rw [readR_symbol hlet hdig h34] at h ⊢
          split at h
          · rename_i h0
            rw [symN_cons] at h0
            have : symN (c :: (r ++ 10 :: s)) = 0 := by
              rw [symN_cons]
              by_cases h2 : r[0]? = some 61 ∧ (c = 33 ∨ c = 60)
              · rw [if_pos h2] at h0; cases h0
              · rw [if_neg h2] at h0
                rw [if_neg]
                · exact h0
                · rintro ⟨h61, hc⟩
                  cases r with
                  | nil => simp at h61
                  | cons d r => exact h2 ⟨h61, hc⟩
            rw [if_pos this]
            exact ⟨_, rfl⟩
          · cases h

theorem LexG.err_nl (s : List UInt8) : ∀ (n : Nat) (l : List UInt8) (i : Nat) (y : Int × Nat), l.length ≤ n → LexG l i (.error y) → ∃ z, LexG (l ++ 10 :: s) i (.error z) := by
  intro n
  induction n with
  | zero =>
    intro l i y hn h
    obtain rfl : l = [] := List.eq_nil_of_length_eq_zero (by omega)
    rcases LexG.inv_err (j := y.2) (e := y.1) h with ⟨_, hlt, _⟩ | ⟨_, _, _, _, _, hlt, _⟩ <;> simp at hlt
  | succ n ih =>
    intro l i y hn h
    rcases LexG.inv_err (j := y.2) (e := y.1) h with ⟨hR, hlt, _⟩ | ⟨k, x, m, len, hR, hlt, hrest⟩
    · have hg := gapF_lt_append false l (10 :: s) hlt
      obtain ⟨e', he'⟩ := readR_err_nl (fun e => by have := congrArg List.length e; simp at this; omega) s hR
      refine ⟨_, LexG.stop (e := e') (by rw [hg]; simp; omega) ?_⟩
      rw [hg, List.drop_append, show gapF false l - l.length = 0 by omega, List.drop_zero]
      exact he'
    · obtain ⟨h1, h2⟩ := readR_len hR
      rw [List.length_drop] at h2
      have hg := gapF_lt_append false l (10 :: s) hlt
      obtain ⟨z, hz⟩ := ih (l.drop (gapF false l + len)) (i + gapF false l + len) (y.1, y.2) (by rw [List.length_drop]; omega) hrest
      refine ⟨z, ?_⟩
      have st := LexG.step (l := l ++ 10 :: s) (i := i) (k := k) (n := m) (x := x) (len := len) (r := .error z) (by rw [hg]; simp; omega)
        (by rw [hg, List.drop_append, show gapF false l - l.length = 0 by omega, List.drop_zero]; exact readR_append hR (nl_ok s))
        (by
          rw [hg, List.drop_append, show gapF false l + len - l.length = 0 by omega, List.drop_zero]
          exact hz)
      exact st

/- TEXTS THAT ARE CUT -/
theorem readR_take {d : List UInt8} {k n : Int} {x : List UInt8} {len : Nat} (h : readR d = .tok k x n len) {m : Nat} (hm : len ≤ m) : readR (d.take m) = .tok k x n len := by
  refine readR_cong h (by rw [List.take_take, Nat.min_eq_left hm]) fun c hc => ?_
  rw [List.getElem?_take] at hc
  split at hc
  · exact .inl hc
  · cases hc

/-- The text is cut behind its first token, or later. -/
theorem LexG.step_take {l : List UInt8} {i m : Nat} {k n : Int} {x : List UInt8} {len : Nat} {r : Except (Int × Nat) (List Tok)} (hlt : gapF false l < l.length) (hR : readR (l.drop (gapF false l)) = .tok k x n len)
    (hr : LexG ((l.drop (gapF false l + len)).take m) (i + gapF false l + len) r) : LexG (l.take (gapF false l + len + m)) i (consE ⟨k, x, n, i + gapF false l⟩ r) := by
  obtain ⟨h1, h2⟩ := readR_len hR
  rw [List.length_drop] at h2
  have hg := gapF_take false l (gapF false l + len + m) (by omega)
  have st := LexG.step (l := l.take (gapF false l + len + m)) (i := i) (k := k) (n := n) (x := x) (len := len) (r := r) (by rw [hg, List.length_take]; omega)
    (by rw [hg, List.drop_take]; exact readR_take hR (by omega))
    (by rw [hg, List.drop_take, show gapF false l + len + m - (gapF false l + len) = m by omega]; exact hr)
  rw [hg] at st
  exact st

theorem LexG.cut_err : ∀ (n : Nat) (l : List UInt8) (i : Nat) (e : Int) (j : Nat), l.length ≤ n → LexG l i (.error (e, j)) →
    ∃ q, j = i + q ∧ q < l.length ∧ (∃ ts, LexG (l.take q) i (.ok ts)) ∧ LexG (l.drop q) 0 (.error (e, 0)) := by
  intro n
  induction n with
  | zero =>
    intro l i e j hn h
    obtain rfl : l = [] := List.eq_nil_of_length_eq_zero (by omega)
    rcases h.inv_err with ⟨_, hlt, _⟩ | ⟨_, _, _, _, _, hlt, _⟩ <;> simp at hlt
  | succ n ih =>
    intro l i e j hn h
    rcases h.inv_err with ⟨hR, hlt, rfl⟩ | ⟨k, x, m, len, hR, hlt, hrest⟩
    · refine ⟨gapF false l, rfl, hlt, ⟨[], LexG.all ?_ i⟩, ?_⟩
      · rw [gapF_take false l _ (Nat.le_refl _), List.length_take]; omega
      · have h0 := gapF_fix false l hlt
        have st := LexG.stop (l := l.drop (gapF false l)) (i := 0) (e := e) (by rw [h0, List.length_drop]; omega) (by rw [h0, List.drop_zero]; exact hR)
        rwa [h0] at st
    · obtain ⟨h1, h2⟩ := readR_len hR
      rw [List.length_drop] at h2
      obtain ⟨q, rfl, hq, ⟨ts, hts⟩, hd⟩ := ih (l.drop (gapF false l + len)) (i + gapF false l + len) e j (by rw [List.length_drop]; omega) hrest
      rw [List.length_drop] at hq
      refine ⟨gapF false l + len + q, by omega, by omega, ⟨_, LexG.step_take hlt hR hts⟩, ?_⟩
      rwa [List.drop_drop] at hd

theorem quoF_kind {l acc : List UInt8} {m : Nat} {k n : Int} {x : List UInt8} {len : Nat} (h : quoF l acc m = .tok k x n len) : k = 3 := (quoF_tok _ _ _ h).1

/-- A token that is no text in quotes is its own text. -/
theorem readR_text {l : List UInt8} {k n : Int} {x : List UInt8} {len : Nat} (h : readR l = .tok k x n len) (hk : k ≠ 3) : x = l.take len := by
  cases l with
  | nil => cases h
  | cons c r =>
    cases hlet : letterB c with
    | true =>
      rw [readR_letter hlet] at h
      split at h <;> cases h
      rfl
    | false =>
      cases hdig : digitB c with
      | true =>
        rw [readR_digit hlet hdig] at h
        split at h <;> cases h
        rfl
      | false =>
        by_cases h34 : c.toNat = 34
        · rw [readR_quote hlet hdig h34] at h
          exact absurd (quoF_kind h) hk
        · rw [readR_symbol hlet hdig h34] at h
          split at h <;> cases h
          rfl

/-- The text is cut behind a token that is no text in quotes. -/
theorem LexG.split : ∀ (n : Nat) (l : List UInt8) (i : Nat) (ts : List Tok) (q : Nat) (x : Tok), l.length ≤ n → LexG l i (.ok ts) → ts[q]? = some x → x.kind ≠ 3 →
    ∃ m, x.off + x.text.length = i + m ∧ m ≤ l.length ∧ LexG (l.take m) i (.ok (ts.take (q + 1))) ∧ LexG (l.drop m) (i + m) (.ok (ts.drop (q + 1))) := by
  intro n
  induction n with
  | zero =>
    intro l i ts q x hn h hq hk
    obtain rfl : l = [] := List.eq_nil_of_length_eq_zero (by omega)
    rcases h.inv_ok with ⟨rfl, _⟩ | ⟨_, _, _, _, _, _, hlt, _⟩
    · simp at hq
    · simp at hlt
  | succ n ih =>
    intro l i ts q y hn h hq hk
    rcases h.inv_ok with ⟨rfl, _⟩ | ⟨k, x, m, len, us, hR, hlt, rfl, hrest⟩
    · simp at hq
    · obtain ⟨h1, h2⟩ := readR_len hR
      rw [List.length_drop] at h2
      cases q with
      | zero =>
        simp only [List.getElem?_cons_zero, Option.some.injEq] at hq
        subst hq
        have hx := readR_text hR hk
        have hxl : x.length = len := by rw [hx, List.length_take, List.length_drop]; omega
        refine ⟨gapF false l + len, by simp only; omega, by omega, ?_, ?_⟩
        · have := LexG.step_take (m := 0) (i := i) hlt hR (r := .ok []) (LexG.all (by rw [List.take_zero]; rfl) _)
          exact this
        · simp only [List.drop_succ_cons, List.drop_zero]
          rwa [show i + (gapF false l + len) = i + gapF false l + len by omega]
      | succ q =>
        simp only [List.getElem?_cons_succ] at hq
        obtain ⟨m', e, hm, ht, hd⟩ := ih (l.drop (gapF false l + len)) (i + gapF false l + len) us q y (by rw [List.length_drop]; omega) hrest hq hk
        rw [List.length_drop] at hm
        refine ⟨gapF false l + len + m', by omega, by omega, ?_, ?_⟩
        · exact LexG.step_take hlt hR ht
        · rw [List.drop_drop] at hd
          simp only [List.drop_succ_cons]
          rwa [show i + (gapF false l + len + m') = i + gapF false l + len + m' by omega]

end Go.Proofs.YtnmfanjhepepbaaGreatDoor

/- Reading is local: items hang on the tokens that they read alone; programs that are joined and cut, and their errors. -/
namespace Go.Proofs.YtnmfanjhepepbaaGreatDoor
open Go

section
variable {Q : Nat → Nat → Prop}

/-- As Par, of readings that do not look further than what they read. -/
def Firm {α β : Type} (Q : Nat → Nat → Prop) (R : α → β → Prop) (m : Nat → PM α) (m' : Nat → PM β) : Prop :=
  ∀ z ts a r, LW ts → m z ts = .ok (a, r) → ∃ p, p ≠ [] ∧ ts = p ++ r ∧ ∀ z' p' r', TWs p' → TWs r' → TE Q p p' → ∃ a', m' z' (p' ++ r') = .ok (a', r') ∧ R a a'

theorem he_of_ne {p p' r r' : List Tok} (h : TE Q p p') (hp : p ≠ []) : HE Q (p ++ r) (p' ++ r') := by
  cases h with
  | nil => exact absurd rfl hp
  | cons h _ => exact h

theorem firm_bind {α β γ δ : Type} [QT Q] {R : α → β → Prop} {S : γ → δ → Prop} {m : Nat → PM α} {m' : Nat → PM β} {f : Nat → α → PM γ} {f' : Nat → β → PM δ} (hm : Par Q R m m') (hf : ∀ a b, R a b → Firm Q S (fun z => f z a) (fun z => f' z b)) :
    Firm Q S (fun z => m z >>= f z) (fun z => m' z >>= f' z) := by
  intro z ts c r htw h
  cases h1 : m z ts with
  | error e => exact absurd ((PM.bind_err h1).symm.trans h) (by simp)
  | ok x =>
    obtain ⟨a, r1⟩ := x
    have h9 : f z a r1 = .ok (c, r) := (PM.bind_ok h1).symm.trans h
    obtain ⟨p1, rfl, k1⟩ := hm.ok z ts a r1 htw h1
    obtain ⟨b, hb⟩ : ∃ b, R a b := by
      obtain ⟨p', e1, w1⟩ := TE.partner (Q := Q) htw.left.1
      obtain ⟨r', e2, w2⟩ := TE.partner (Q := Q) htw.right.1
      obtain ⟨b, _, hb⟩ := k1 z p' r' w1 w2 e1 e2.he
      exact ⟨b, hb⟩
    obtain ⟨p2, hne, rfl, _⟩ := hf a b hb z r1 c r htw.right h9
    refine ⟨p1 ++ p2, by simp [hne], by simp, fun z' p' r' hp' hr' hp => ?_⟩
    obtain ⟨q1, q2, rfl, hq1, hq2⟩ := hp.split
    obtain ⟨a', e1, ra⟩ := k1 z' q1 (q2 ++ r') hp'.left (hp'.right.append hr') hq1 (he_of_ne hq2 hne)
    obtain ⟨p3, _, e3, k3⟩ := hf a a' ra z _ c r htw.right h9
    have : p3 = p2 := (List.append_cancel_right e3).symm
    subst this
    obtain ⟨c', e2, rc⟩ := k3 z' q2 r' hp'.right hr' hq2
    exact ⟨c', by rw [List.append_assoc]; exact (PM.bind_ok e1).trans e2, rc⟩

theorem needP_one (z : Nat) (s : List UInt8) {ts : List Tok} {r : List Tok} (h : needP z [s] ts = .ok ((), r)) : ∃ t, ts = t :: r ∧ wordB t s = true := by
  cases hq : takeB s ts with
  | error e => exact absurd hq (takeB_ok _ _ _)
  | ok x =>
    obtain ⟨b, q⟩ := x
    cases b with
    | false => exact absurd ((PM.bind_err (need1_no z hq)).symm.trans h) (by simp)
    | true =>
      have h' := (PM.bind_ok (need1_yes z hq)).symm.trans h
      cases h'
      unfold takeB at hq
      split at hq
      · rename_i hs
        cases ts with
        | nil => cases hs
        | cons t q' =>
          cases hq
          refine ⟨t, rfl, ?_⟩
          simpa [seesB] using hs
      · cases hq

theorem needP_of (z : Nat) {s : List UInt8} {t : Tok} {r : List Tok} (h : wordB t s = true) : needP z [s] (t :: r) = .ok ((), r) := by
  have e1 : need1 z s (t :: r) = .ok ((), r) := need1_yes z (takeB_yes (ts := t :: r) (by show (wordB t s && true) = true; rw [h]; rfl))
  show (need1 z s >>= fun _ => pure ()) _ = _
  rw [PM.bind_ok e1]
  rfl

theorem firm_need {α β : Type} {S : α → β → Prop} (s : List UInt8) {a : α} {b : β} (h : S a b) : Firm Q S (fun z => needP z [s] >>= fun _ => (pure a : PM α)) (fun z => needP z [s] >>= fun _ => (pure b : PM β)) := by
  intro z ts c r _ hm
  cases h1 : needP z [s] ts with
  | error e => exact absurd ((PM.bind_err h1).symm.trans hm) (by simp)
  | ok x =>
    obtain ⟨u, q⟩ := x
    have hm := (PM.bind_ok h1).symm.trans hm
    cases hm
    obtain ⟨t, rfl, hw⟩ := needP_one z s h1
    refine ⟨[t], by simp, rfl, fun z' p' r' _ _ hp => ⟨b, ?_, h⟩⟩
    cases hp with
    | @cons _ t' _ _ h1 h2 =>
      cases h2
      show (needP z' [s] >>= fun _ => (pure b : PM β)) (t' :: r') = _
      rw [PM.bind_ok (needP_of z' ((wordB_eq h1 s).symm.trans hw))]
      rfl

/-- An item, by its offset. -/
def itemG (off z : Nat) : PM It := wordP z itWords 1 >>= fun k => ifP (k != 5) (nameP z) [] >>= fun nm => partP z k (x0 k nm off) >>= fun x => needP z [if k = 4 then [125] else [59]] >>= fun _ => pure x

theorem itemP_G (z : Nat) (t : Tok) (r : List Tok) : itemP z (t :: r) = itemG t.off z (t :: r) := by
  rw [itemP_eq]
  refine congrFun (congrArg (fun f => wordP z itWords 1 >>= f) (funext fun k => congrArg (fun f => ifP (k != 5) (nameP z) [] >>= f) (funext fun nm => congrArg (fun f => partP z k (x0 k nm t.off) >>= f) (funext fun x => ?_)))) _
  by_cases hk : k = 4
  · simp only [if_pos hk]
  · simp only [if_neg hk]

theorem itemP_nil (z : Nat) : itemP z [] = .error (7, z) := rfl

theorem itQ_x0 [hq : QT Q] {off off' : Nat} (h : Q off off') (k : Int) (nm : List UInt8) : ItQ Q (x0 k nm off) (x0 k nm off') := by
  refine ⟨off', ex0, rfl, h, ?_⟩
  show ExQ Q ex0 ex0
  unfold ex0
  rw [ExQ]
  exact ⟨rfl, rfl, rfl, rfl, rfl, rfl, rfl, hq.zero, trivial⟩

theorem par_itemG [QT Q] {off off' : Nat} (h : Q off off') : Par Q (ItQ Q) (fun z => itemG off z) (fun z => itemG off' z) :=
  par_andq (par_word _ _) fun k => par_andq (par_ifP par_name) fun nm => par_bind (f := fun z x => needP z [if k = 4 then [125] else [59]] >>= fun _ => pure x) (f' := fun z x => needP z [if k = 4 then [125] else [59]] >>= fun _ => pure x)
    (par_partI (itQ_x0 h k nm) k) fun _ _ hxy => par_andq (par_need _) fun _ => par_pure hxy

theorem firm_itemG [QT Q] {off off' : Nat} (h : Q off off') : Firm Q (ItQ Q) (fun z => itemG off z) (fun z => itemG off' z) :=
  firm_bind (f := fun z k => ifP (k != 5) (nameP z) [] >>= fun nm => partP z k (x0 k nm off) >>= fun x => needP z [if k = 4 then [125] else [59]] >>= fun _ => pure x)
    (f' := fun z k => ifP (k != 5) (nameP z) [] >>= fun nm => partP z k (x0 k nm off') >>= fun x => needP z [if k = 4 then [125] else [59]] >>= fun _ => pure x) (par_word _ _) fun k k' hk => by
    subst hk
    refine firm_bind (f := fun z nm => partP z k (x0 k nm off) >>= fun x => needP z [if k = 4 then [125] else [59]] >>= fun _ => pure x) (f' := fun z nm => partP z k (x0 k nm off') >>= fun x => needP z [if k = 4 then [125] else [59]] >>= fun _ => pure x) (par_ifP par_name) fun nm nm' hn => ?_
    subst hn
    exact firm_bind (f := fun z x => needP z [if k = 4 then [125] else [59]] >>= fun _ => pure x) (f' := fun z x => needP z [if k = 4 then [125] else [59]] >>= fun _ => pure x) (par_partI (itQ_x0 h k nm) k) fun x y hxy => firm_need _ hxy

/-- An item that was read is read again, whatever follows. -/
theorem item_firm [hq : QT Q] {z : Nat} {ts : List Tok} {x : It} {r : List Tok} (htw : LW ts) (h : itemP z ts = .ok (x, r)) :
    ∃ p, p ≠ [] ∧ ts = p ++ r ∧ ∀ z' p' r', TWs p' → TWs r' → TE Q p p' → ∃ x', itemP z' (p' ++ r') = .ok (x', r') ∧ ItQ Q x x' := by
  cases ts with
  | nil => rw [itemP_nil] at h; cases h
  | cons t q =>
    rw [itemP_G] at h
    obtain ⟨n, hn⟩ := hq.tot t.off
    obtain ⟨p, hne, e, _⟩ := firm_itemG (Q := Q) hn z _ x r htw h
    refine ⟨p, hne, e, fun z' p' r' a1 a2 a3 => ?_⟩
    have hh : HE Q (t :: q) (p' ++ r') := by rw [e]; exact he_of_ne a3 hne
    obtain ⟨t', q', e', ht⟩ := hh.cons_left
    obtain ⟨p1, _, e1, k⟩ := firm_itemG (Q := Q) ht.2.2.2 z _ x r htw h
    have : p1 = p := List.append_cancel_right (e1.symm.trans e)
    subst this
    obtain ⟨x', ex, rx⟩ := k z' p' r' a1 a2 a3
    refine ⟨x', ?_, rx⟩
    rw [e', itemP_G, ← e']
    exact ex

/-- An item that was not read. -/
theorem item_err [hq : QT Q] {z : Nat} {ts : List Tok} {e : Int} {o : Nat} (htw : LW ts) (h : itemP z ts = .error (e, o)) :
    (e = 7 ∧ o = z ∧ ∀ z' ts', TWs ts' → TE Q ts ts' → itemP z' ts' = .error (7, z')) ∨
    (e ≠ 7 ∧ ∃ p t r, ts = p ++ t :: r ∧ o = t.off ∧ ∀ z' p' t' r', TWs p' → TW t' → TWs r' → TE Q p p' → tokQ Q t t' → itemP z' (p' ++ t' :: r') = .error (e, t'.off)) := by
  cases ts with
  | nil =>
    rw [itemP_nil] at h
    injection h with h
    injection h with h1 h2
    exact .inl ⟨h1.symm, h2.symm, fun z' ts' _ ht => by cases ht; rfl⟩
  | cons t q =>
    rw [itemP_G] at h
    obtain ⟨n, hn⟩ := hq.tot t.off
    rcases (par_itemG (Q := Q) hn).err z _ e o htw h with ⟨he, ho, _⟩ | ⟨he, p, t1, r, e1, ho, _⟩
    · refine .inl ⟨he, ho, fun z' ts' a1 a2 => ?_⟩
      obtain ⟨t', q', rfl, ht⟩ := a2.he.cons_left
      rcases (par_itemG (Q := Q) ht.2.2.2).err z _ e o htw h with ⟨_, _, k⟩ | ⟨he', _⟩
      · rw [itemP_G]
        exact k z' _ a1 a2
      · exact absurd he he'
    · refine .inr ⟨he, p, t1, r, e1, ho, fun z' p' t' r' a1 a2 a3 a4 a5 => ?_⟩
      have hh : HE Q (t :: q) (p' ++ t' :: r') := by rw [e1]; exact HE.append a4 (HE.cons a5)
      obtain ⟨t2, q', e', ht⟩ := hh.cons_left
      rcases (par_itemG (Q := Q) ht.2.2.2).err z _ e o htw h with ⟨he', _⟩ | ⟨_, p3, t3, r3, e3, ho3, k⟩
      · exact absurd he' he
      · obtain ⟨rfl, rfl, rfl⟩ := (e1 ▸ htw : LW (p ++ t1 :: r)).same (e1.symm.trans e3) (ho.symm.trans ho3)
        have := k z' p' t' r' a1 a2 a3 a4 a5
        rw [e', itemP_G, ← e']
        exact this

mutual
theorem exQ_eq : ∀ (x y : Ex), ExQ Eq x y → x = y
  | .mk k t ks c n a s g o, .mk k' t' ks' c' n' a' s' g' o', h => by
    rw [ExQ] at h
    obtain ⟨rfl, rfl, rfl, rfl, rfl, rfl, rfl, rfl, hk⟩ := h
    rw [exsQ_eq ks ks' hk]
theorem exsQ_eq : ∀ (xs ys : List Ex), ExsQ Eq xs ys → xs = ys
  | [], [], _ => rfl
  | x :: xs, y :: ys, h => by rw [exQ_eq x y h.1, exsQ_eq xs ys h.2]
  | [], _ :: _, h => h.elim
  | _ :: _, [], h => h.elim
end

theorem itQ_eq {x y : It} (h : ItQ Eq x y) : x = y := by
  obtain ⟨o', e', rfl, rfl, h3⟩ := h
  rw [← exQ_eq _ _ h3]

theorem itsQ_eq : ∀ {xs ys : List It}, ItsQ Eq xs ys → xs = ys
  | [], [], _ => rfl
  | x :: xs, y :: ys, h => by rw [itQ_eq h.1, itsQ_eq h.2]
  | [], _ :: _, h => h.elim
  | _ :: _, [], h => h.elim

/- Tryz.progRAMS -/
/-- Tokens that are read as items. -/
inductive Its (z : Nat) : List Tok → List It → Prop
  | nil : Its z [] []
  | cons {ts r : List Tok} {x : It} {xs : List It} : itemP z ts = .ok (x, r) → Its z r xs → Its z ts (x :: xs)

theorem itemsA_iff (z : Nat) : ∀ (f : Nat) (acc : List It) (ts : List Tok) (l : List It), ts.length < f → acc.length ≤ 200 → (itemsA z f acc ts = .ok l ↔ ∃ xs, l = acc ++ xs ∧ Its z ts xs ∧ acc.length + xs.length ≤ 200)
  | 0, _, _, _, h, _ => absurd h (Nat.not_lt_zero _)
  | f + 1, acc, [], l, _, ha => by
    constructor
    · intro h; cases h; exact ⟨[], by simp, .nil, by simpa using ha⟩
    · rintro ⟨xs, rfl, hi, _⟩
      cases hi with
      | nil => rw [itemsA, List.append_nil]
      | cons h _ => rw [itemP_nil] at h; cases h
  | f + 1, acc, t :: q, l, hl, ha => by
    by_cases hfull : acc.length = 200
    · rw [itemsA_full hfull]
      constructor
      · intro h; cases h
      · rintro ⟨xs, _, hi, hle⟩
        cases hi with
        | cons _ _ => simp at hle; omega
    · cases hp : itemP z (t :: q) with
      | error e =>
        rw [itemsA_err hfull hp]
        constructor
        · intro h; cases h
        · rintro ⟨xs, _, hi, _⟩
          cases hi with
          | cons h _ => rw [hp] at h; cases h
      | ok y =>
        obtain ⟨x, r⟩ := y
        have hlt := itemP_lt hp
        simp only [List.length_cons] at hl hlt
        rw [itemsA_ok hfull hp, itemsA_iff z f (acc ++ [x]) r l (by omega) (by simp; omega)]
        constructor
        · rintro ⟨xs, rfl, hi, hle⟩
          exact ⟨x :: xs, by simp, .cons hp hi, by simp at hle ⊢; omega⟩
        · rintro ⟨xs, rfl, hi, hle⟩
          cases hi with
          | @cons _ r' x' xs' h hi =>
            rw [hp] at h
            cases h
            exact ⟨xs', by simp, hi, by simp at hle ⊢; omega⟩

/-- What Parse makes of a text whose tokens are known. -/
theorem parseM_ok {s : List UInt8} {ts : List Tok} {l : List It} (h : lexM s = .ok ts) : parseM s = .ok l ↔ Its s.length ts l ∧ l.length ≤ 200 := by
  unfold parseM
  rw [h]
  simp only
  rw [itemsA_iff _ _ _ _ _ (Nat.lt_succ_self _) (by simp)]
  constructor
  · rintro ⟨xs, rfl, hi, hle⟩; simp at hle ⊢; exact ⟨hi, hle⟩
  · rintro ⟨hi, hle⟩; exact ⟨l, rfl, hi, by simpa using hle⟩

/-- Items that are followed by others. -/
theorem Its.app [QT Q] {z z' : Nat} {ts : List Tok} {xs : List It} (h : Its z ts xs) : LW ts → ∀ {ts' us : List Tok} {ys : List It}, TWs ts' → TWs us → TE Q ts ts' → Its z' us ys → ∃ xs', Its z' (ts' ++ us) (xs' ++ ys) ∧ ItsQ Q xs xs' := by
  induction h with
  | nil =>
    intro _ ts' us ys _ _ ht hi
    cases ht
    exact ⟨[], hi, trivial⟩
  | cons hp _ ih =>
    intro htw ts' us ys a1 a2 ht hi
    obtain ⟨p, _, rfl, k⟩ := item_firm (Q := Q) htw hp
    obtain ⟨p', r', rfl, t1, t2⟩ := ht.split
    obtain ⟨xs', h1, h2⟩ := ih htw.right a1.right a2 t2 hi
    obtain ⟨x', ex, rx⟩ := k z' p' (r' ++ us) a1.left (a1.right.append a2) t1
    exact ⟨x' :: xs', by rw [List.append_assoc]; exact .cons ex h1, rx, h2⟩

theorem Its.map [QT Q] {z z' : Nat} {ts ts' : List Tok} {xs : List It} (h : Its z ts xs) (hw : LW ts) (hw' : TWs ts') (ht : TE Q ts ts') : ∃ xs', Its z' ts' xs' ∧ ItsQ Q xs xs' := by
  obtain ⟨xs', h1, h2⟩ := h.app (Q := Q) (z' := z') (us := []) (ys := []) hw hw' (fun _ h => by cases h) ht .nil
  exact ⟨xs', by simpa using h1, h2⟩

theorem ItsQ.app {xs xs' ys ys' : List It} (h : ItsQ Q xs xs') (k : ItsQ Q ys ys') : ItsQ Q (xs ++ ys) (xs' ++ ys') := by
  induction xs generalizing xs' with
  | nil =>
    cases xs' with
    | nil => exact k
    | cons => exact h.elim
  | cons x xs ih =>
    cases xs' with
    | nil => exact h.elim
    | cons x' xs' => exact ⟨h.1, ih h.2⟩

/-- The first items, of the tokens before the others. -/
theorem Its.take {z z' : Nat} {ts : List Tok} {xs : List It} (h : Its z ts xs) : LW ts → ∀ (i : Nat), i ≤ xs.length → ∃ p r, ts = p ++ r ∧ Its z' p (xs.take i) ∧ Its z r (xs.drop i) := by
  induction h with
  | nil => intro _ i hi; exact ⟨[], [], rfl, by simpa using Its.nil, by simpa using Its.nil⟩
  | @cons ts r x xs hp hi ih =>
    intro htw i hle
    cases i with
    | zero => exact ⟨[], ts, rfl, by simpa using Its.nil, by simpa using Its.cons hp hi⟩
    | succ i =>
      obtain ⟨p, _, rfl, k⟩ := item_firm (Q := Eq) htw hp
      obtain ⟨p2, r2, rfl, h1, h2⟩ := ih htw.right i (by simpa using hle)
      obtain ⟨x', ex, rx⟩ := k z' p p2 htw.left.1 htw.right.left.1 (TE.refl (fun _ => rfl) p)
      have : x = x' := itQ_eq rx
      subst this
      exact ⟨p ++ p2, r2, by simp, by simpa using Its.cons ex h1, by simpa using h2⟩

end
end Go.Proofs.YtnmfanjhepepbaaGreatDoor

/- Tokens of texts as the parser wants them: their offsets, beginnings of texts, texts that are joined. -/
namespace Go.Proofs.YtnmfanjhepepbaaGreatDoor
open Go

theorem lexGo_ok_R : ∀ (f : Nat) (l : List UInt8) (i k : Nat) (ts : List Tok), l.length ≤ f → lexGo f l i k = .ok ts → LexR l i (.ok ts)
  | 0, l, i, k, ts, hl, h => by
    obtain rfl : l = [] := List.eq_nil_of_length_eq_zero (by omega)
    cases h
    exact .nil i
  | f + 1, l, i, k, ts, hf, h => by
    cases l with
    | nil => rw [lexGo_nil] at h; cases h; exact .nil i
    | cons c r =>
      rw [lexGo] at h
      cases hR : readR (c :: r) with
      | none => exact absurd hR (readR_some _)
      | err e => rw [hR] at h; cases h
      | tok kd x n len =>
        obtain ⟨h1, h2⟩ := readR_len hR
        rw [hR] at h
        simp only at h
        by_cases hk : k = 5000
        · rw [if_pos hk] at h; cases h
        · rw [if_neg hk] at h
          have hd : ((c :: r).drop (len + gapF false ((c :: r).drop len))) = ((c :: r).drop len).drop (gapF false ((c :: r).drop len)) := by rw [List.drop_drop]
          have hi : i + (len + gapF false ((c :: r).drop len)) = i + len + gapF false ((c :: r).drop len) := by omega
          rw [hd, hi] at h
          cases hg : lexGo f (((c :: r).drop len).drop (gapF false ((c :: r).drop len))) (i + len + gapF false ((c :: r).drop len)) (k + 1) with
          | error e => rw [hg] at h; cases h
          | ok us =>
            rw [hg] at h
            cases h
            have ih := lexGo_ok_R f (((c :: r).drop len).drop (gapF false ((c :: r).drop len))) _ _ us (by simp at hf h2 ⊢; omega) hg
            exact LexR.tok (i := i) (by simp) hR ih

theorem lexM_okG {t : List UInt8} {ts : List Tok} (h : lexM t = .ok ts) : LexG t 0 (.ok ts) := by
  unfold lexM at h
  have := lexGo_ok_R _ _ _ _ _ (by rw [List.length_drop]; omega) h
  unfold LexG
  rwa [Nat.zero_add]

theorem lexGo_of_R : ∀ (f : Nat) (l : List UInt8) (i k : Nat) (ts : List Tok), l.length ≤ f → k + ts.length ≤ 5000 → LexR l i (.ok ts) → lexGo f l i k = .ok ts := by
  intro f l i k ts hf hk h
  generalize hr : (Except.ok ts : Except (Int × Nat) (List Tok)) = r at h
  induction h generalizing f k ts with
  | nil i => rw [lexGo_nil]
  | err _ _ => cases hr
  | @tok l i kd n x len r' hl hR hrest ih =>
    obtain ⟨h1, h2⟩ := readR_len hR
    cases r' with
    | error e => cases hr
    | ok us =>
      cases hr
      cases l with
      | nil => exact absurd rfl hl
      | cons c r =>
        cases f with
        | zero => simp at hf
        | succ f =>
          simp only [List.length_cons] at hk
          rw [lexGo, hR]
          simp only
          rw [if_neg (by omega)]
          have hd : ((c :: r).drop (len + gapF false ((c :: r).drop len))) = ((c :: r).drop len).drop (gapF false ((c :: r).drop len)) := by rw [List.drop_drop]
          have hi : i + (len + gapF false ((c :: r).drop len)) = i + len + gapF false ((c :: r).drop len) := by omega
          rw [hd, hi, ih f (k + 1) us (by simp at hf h2 ⊢; omega) (by omega) rfl]
          rfl

theorem lexM_of {t : List UInt8} {ts : List Tok} (hl : ts.length ≤ 5000) (h : LexG t 0 (.ok ts)) : lexM t = .ok ts := by
  unfold lexM
  unfold LexG at h
  rw [Nat.zero_add] at h
  exact lexGo_of_R _ _ _ _ _ (by rw [List.length_drop]; omega) (by omega) h

theorem readR_tw {l : List UInt8} {n : Int} {x : List UInt8} {len : Nat} (h : readR l = .tok 4 x n len) : ∀ c, x[0]? = some c → letterB c = false := by
  cases l with
  | nil => cases h
  | cons c r =>
    obtain ⟨h1, _⟩ := readR_len h
    have hx := readR_text h (by decide)
    cases hlet : letterB c with
    | true =>
      rw [readR_letter hlet] at h
      split at h <;> cases h
    | false =>
      intro d hd
      rw [hx] at hd
      cases len with
      | zero => omega
      | succ len =>
        simp only [List.take_succ_cons, List.getElem?_cons_zero, Option.some.injEq] at hd
        subst hd
        exact hlet

/-- The tokens of a text: where they stand, and that they are as the parser wants them. -/
theorem LexG.wf : ∀ (n : Nat) (l : List UInt8) (i : Nat) (ts : List Tok), l.length ≤ n → LexG l i (.ok ts) → LW ts ∧ (∀ x ∈ ts, i ≤ x.off ∧ x.off < i + l.length) ∧ ts.length ≤ l.length := by
  intro n
  induction n with
  | zero =>
    intro l i ts hn h
    obtain rfl : l = [] := List.eq_nil_of_length_eq_zero (by omega)
    rcases h.inv_ok with ⟨rfl, _⟩ | ⟨_, _, _, _, _, _, hlt, _⟩
    · exact ⟨LW.nil, (fun _ h => by cases h), by simp⟩
    · simp at hlt
  | succ n ih =>
    intro l i ts hn h
    rcases h.inv_ok with ⟨rfl, _⟩ | ⟨k, x, m, len, us, hR, hlt, rfl, hrest⟩
    · exact ⟨LW.nil, (fun _ h => by cases h), by simp⟩
    · obtain ⟨h1, h2⟩ := readR_len hR
      rw [List.length_drop] at h2
      obtain ⟨⟨w1, w2⟩, b, c⟩ := ih (l.drop (gapF false l + len)) (i + gapF false l + len) us (by rw [List.length_drop]; omega) hrest
      rw [List.length_drop] at b c
      refine ⟨⟨fun y hy => ?_, List.pairwise_cons.2 ⟨fun y hy => ?_, w2⟩⟩, fun y hy => ?_, by simp; omega⟩
      · rcases List.mem_cons.1 hy with rfl | hy
        · intro hk
          simp only at hk
          subst hk
          exact readR_tw hR
        · exact w1 y hy
      · have := b y hy
        simp only
        omega
      · rcases List.mem_cons.1 hy with rfl | hy
        · simp only; omega
        · have := b y hy; omega

/-- The text before a token has the tokens before it. -/
theorem LexG.cut : ∀ (n : Nat) (l : List UInt8) (i : Nat) (p : List Tok) (t : Tok) (r : List Tok), l.length ≤ n → LexG l i (.ok (p ++ t :: r)) → LexG (l.take (t.off - i)) i (.ok p) := by
  intro n
  induction n with
  | zero =>
    intro l i p t r hn h
    obtain rfl : l = [] := List.eq_nil_of_length_eq_zero (by omega)
    rcases h.inv_ok with ⟨h, _⟩ | ⟨_, _, _, _, _, _, hlt, _⟩
    · simp at h
    · simp at hlt
  | succ n ih =>
    intro l i p t r hn h
    rcases h.inv_ok with ⟨h, _⟩ | ⟨k, x, m, len, us, hR, hlt, he, hrest⟩
    · simp at h
    · obtain ⟨h1, h2⟩ := readR_len hR
      rw [List.length_drop] at h2
      cases p with
      | nil =>
        simp only [List.nil_append, List.cons.injEq] at he
        obtain ⟨rfl, rfl⟩ := he
        simp only
        rw [show i + gapF false l - i = gapF false l by omega]
        refine LexG.all ?_ i
        rw [gapF_take false l _ (Nat.le_refl _), List.length_take]; omega
      | cons y p =>
        simp only [List.cons_append, List.cons.injEq] at he
        obtain ⟨rfl, rfl⟩ := he
        have hb := (LexG.wf _ _ _ _ (Nat.le_refl _) hrest).2.1 t (by simp)
        have := ih (l.drop (gapF false l + len)) (i + gapF false l + len) p t r (by rw [List.length_drop]; omega) hrest
        have st := LexG.step_take (m := t.off - (i + gapF false l + len)) (i := i) hlt hR this
        rw [show gapF false l + len + (t.off - (i + gapF false l + len)) = t.off - i by omega] at st
        exact st

end Go.Proofs.YtnmfanjhepepbaaGreatDoor
