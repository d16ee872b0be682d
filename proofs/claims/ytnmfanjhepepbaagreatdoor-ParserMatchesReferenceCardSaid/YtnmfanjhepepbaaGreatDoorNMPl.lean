/-
 Plain facts on texts and their tokens: what a token depends on; texts that are joined, cut, filled with gaps. Reading is local: items hang on the tokens that they read alone; programs that are joined and cut, and their errors. Tokens of texts as the parser wants them: their offsets, beginnings of texts, texts that are joined.
-/
import Derived.Test.YtnmfanjhepepbaaGreatDoorNStructs
import Derived.Test.YtnmfanjhepepbaaGreatDoorNMLex
import Derived.Test.YtnmfanjhepepbaaGreatDoorNMPd
import Derived.Test.YtnmfanjhepepbaaGreatDoorNMSm
set_option linter.all false
/- Plain facts on texts and their tokens: what a token depends on; texts that are joined, cut, filled with gaps. -/
namespace Go.Proofs.YtnmfanjhepepbaaGreatDoor
open Go StillVC

/- THE TOKENS OF A TEXT, AS A RELATION -/
def consE (x : Tok) : Except (Int × Nat) (List Tok) → Except (Int × Nat) (List Tok)
 | .error e => .error e
 | .ok ts => .ok (x :: ts)

/-- The tokens of a text that begins with no gap. -/
inductive LexR : List UInt8 → Nat → Except (Int × Nat) (List Tok) → Prop
 | nil (i : Nat) : LexR [] i (.ok [])
 | err {l : List UInt8} {i : Nat} {e : Int} (hl : l ≠ []) (h : readR l = .err e) : LexR l i (.error (e, i))
 | tok {l : List UInt8} {i : Nat} {k n : Int} {x : List UInt8} {len : Nat} {r : Except (Int × Nat) (List Tok)} (hl : l ≠ []) (h : readR l = .tok k x n len)
   (hr : LexR ((l.drop len).drop (gapF false (l.drop len))) (i + len + gapF false (l.drop len)) r) : LexR l i (consE ⟨k, x, n, i⟩ r)

/-- The tokens of a text, with gaps ahead. -/
def LexG (l : List UInt8) (i : Nat) (r : Except (Int × Nat) (List Tok)) : Prop := LexR (l.drop (gapF false l)) (i + gapF false l) r

/- OFFSETS -/
/- WHAT A TOKEN DEPENDS ON -/
theorem spanN_cong {p : UInt8 → Bool} : ∀ {l l' : List UInt8} {n : Nat}, n = spanN p l → l'.take n = l.take n → (∀ c, l'[n]? = some c → l[n]? = some c ∨ p c = false) → spanN p l' = n
 | l, l', n, hn, ht, hc => by
  have hle := spanN_le p l
  have hlen : n ≤ l'.length := by
   have := congrArg List.length ht
   simp at this
   omega
  refine spanN_end (fun c hcm => ?_) hlen (fun c hcn => ?_)
  ·rw [ht, hn] at hcm
   exact span_take p l c hcm
  ·rcases hc c hcn with h | h
   ·have hs : ∀ (l : List UInt8) (c : UInt8), l[spanN p l]? = some c → p c = false := by
     intro l
     induction l with
     | nil => intro c h; simp at h
     | cons a l ih =>
      intro c h
      cases ha : p a with
      | false =>
       rw [span_zero ha] at h
       simp at h
       rw [← h]; exact ha
      | true =>
       have : spanN p (a :: l) = spanN p l + 1 := by unfold spanN; rw [List.takeWhile_cons, ha]; simp
       rw [this] at h
       exact ih c (by simpa using h)
    rw [hn] at h
    exact hs l c h
   ·exact h

theorem quoF_cong : ∀ (l acc : List UInt8) (m : Nat) {l' : List UInt8} {k n : Int} {x : List UInt8} {len : Nat}, quoF l acc m = .tok k x n len → l'.take (len - m - 1) = l.take (len - m - 1) → quoF l' acc m = .tok k x n len
 | [], acc, m, l', _, _, _, _, h, _ => by cases h
 | [c], acc, m, l', k, n, x, len, h, ht => by
  have hlen := quoF_len _ _ _ h
  rw [quoF] at h
  split at h
  ·rename_i hc
   split at h
   ·cases h
   ·rename_i ha
    injection h with e1 e2 e3 e4
    subst e4 e1 e2 e3
    rw [show m + 2 - m - 1 = 1 by omega] at ht
    cases l' with
    | nil => simp at ht
    | cons d r =>
     simp at ht
     subst ht
     cases r with
     | nil => rw [quoF, if_pos hc, if_neg ha]
     | cons e r => rw [quoF, if_pos hc, if_neg ha]
  ·split at h <;> cases h
 | c :: d :: r, acc, m, l', k, n, x, len, h, ht => by
  have hlen := quoF_len _ _ _ h
  rw [quoF] at h
  cases l' with
  | nil =>
   exfalso
   rw [show len - m - 1 = (len - m - 2) + 1 by omega] at ht
   simp at ht
  | cons c' r' =>
   have hc' : c' = c := by
    rw [show len - m - 1 = (len - m - 2) + 1 by omega] at ht
    simp at ht
    exact ht.1
   subst hc'
   by_cases h34 : c'.toNat = 34
   ·rw [if_pos h34] at h
    split at h
    ·cases h
    ·rename_i ha
     injection h with e1 e2 e3 e4
     subst e4 e1 e2 e3
     cases r' with
     | nil => rw [quoF, if_pos h34, if_neg ha]
     | cons e r => rw [quoF, if_pos h34, if_neg ha]
   ·rw [if_neg h34] at h
    by_cases h10 : c'.toNat = 10
    ·rw [if_pos h10] at h; cases h
    ·rw [if_neg h10] at h
     have hrest : r'.take (len - m - 2) = (d :: r).take (len - m - 2) := by
      rw [show len - m - 1 = (len - m - 2) + 1 by omega] at ht
      simpa using ht
     by_cases h92 : c'.toNat = 92
     ·rw [if_pos h92] at h
      cases he : escB d with
      | none => rw [he] at h; cases h
      | some y =>
       rw [he] at h
       have hl2 := quoF_len _ _ _ h
       rw [show len - m - 2 = (len - m - 3) + 1 by omega] at hrest
       cases r' with
       | nil => simp at hrest
       | cons d' r'' =>
        simp at hrest
        obtain ⟨rfl, hrest⟩ := hrest
        rw [quoF, if_neg h34, if_neg h10, if_pos h92, he]
        exact quoF_cong r _ _ h (by rw [show len - (m + 2) - 1 = len - m - 3 by omega]; exact hrest)
     ·rw [if_neg h92] at h
      have hl2 := quoF_len _ _ _ h
      have ih := quoF_cong (d :: r) _ _ h (l' := r') (by rw [show len - (m + 1) - 1 = len - m - 2 by omega]; exact hrest)
      cases r' with
      | nil =>
       exfalso
       rw [show len - m - 2 = (len - m - 3) + 1 by omega] at hrest
       simp at hrest
      | cons e r3 => rw [quoF, if_neg h34, if_neg h10, if_neg h92]; exact ih

theorem symN_cons (c : UInt8) (r : List UInt8) : symN (c :: r) = if (r[0]? = some 61 ∧ (c = 33 ∨ c = 60)) then 2 else if c ∈ symB then 1 else 0 := by
 have h0 : (c :: r)[0]? = some c := rfl
 have hs := symN_at h0
 have p1 := prefix2_iff (t := c :: r) (i := 0) (a := 33) (b := 61)
 have p2 := prefix2_iff (t := c :: r) (i := 0) (a := 60) (b := 61)
 simp only [List.drop_zero, List.getElem?_cons_zero, Nat.zero_add, List.getElem?_cons_succ, Option.some.injEq] at hs p1 p2
 rw [hs]
 by_cases h : r[0]? = some 61 ∧ (c = 33 ∨ c = 60)
 ·rw [if_pos h, if_pos]
  rcases h with ⟨h1, rfl | rfl⟩
  ·exact .inl (p1.2 ⟨rfl, h1⟩)
  ·exact .inr (p2.2 ⟨rfl, h1⟩)
 ·rw [if_neg h, if_neg]
  rintro (e | e)
  ·exact h ⟨(p1.1 e).2, .inl (p1.1 e).1⟩
  ·exact h ⟨(p2.1 e).2, .inr (p2.1 e).1⟩

theorem span_mono {p q : UInt8 → Bool} (hpq : ∀ c, p c = true → q c = true) : ∀ (l : List UInt8), spanN p l ≤ spanN q l
 | [] => by simp [spanN]
 | a :: l => by
  have ih := span_mono hpq l
  unfold spanN at ih ⊢
  rw [List.takeWhile_cons, List.takeWhile_cons]
  cases hp : p a with
  | false => simp
  | true => rw [hpq a hp]; simpa using ih

theorem readR_cong {l l' : List UInt8} {k n : Int} {x : List UInt8} {len : Nat} (h : readR l = .tok k x n len) (ht : l'.take len = l.take len)
  (hn : ∀ c, l'[len]? = some c → l[len]? = some c ∨ (innerB c = false ∧ c ≠ 61)) : readR l' = .tok k x n len := by
 obtain ⟨hl1, hl2⟩ := readR_len h
 cases l with
 | nil => simp at hl2; omega
 | cons c r =>
  cases l' with
  | nil =>
   exfalso
   have := congrArg List.length ht
   simp at this
   omega
  | cons c' r' =>
   obtain ⟨rfl, htr⟩ : c' = c ∧ r'.take (len - 1) = r.take (len - 1) := by
    rw [show len = (len - 1) + 1 by omega] at ht
    simpa using ht
   have hni : ∀ d, (c' :: r')[len]? = some d → (c' :: r)[len]? = some d ∨ innerB d = false := fun d hd => (hn d hd).imp id (·.1)
   cases hlet : letterB c' with
   | true =>
    rw [readR_letter hlet] at h ⊢
    split at h
    ·cases h
    ·rename_i h24
     injection h with e1 e2 e3 e4
     have hs : spanN innerB (c' :: r') = len := spanN_cong e4.symm ht hni
     rw [hs, ht, ← e1, ← e2, ← e3, e4, if_neg (by omega)]
   | false =>
    cases hdig : digitB c' with
    | true =>
     rw [readR_digit hlet hdig] at h ⊢
     split at h
     ·cases h
     ·rename_i h10
      injection h with e1 e2 e3 e4
      have hm := span_mono (p := digitB) (q := innerB) (fun c h => digit_inner h) (c' :: r)
      have hs : spanN digitB (c' :: r') = len := spanN_cong e4.symm ht (fun d hd => (hni d hd).imp id fun hd => by
       cases hh : digitB d with
       | false => rfl
       | true => rw [digit_inner hh] at hd; cases hd)
      have hs2 : spanN innerB (c' :: r') = len := spanN_cong (by omega) ht hni
      rw [hs, hs2, ht, ← e1, ← e2, ← e3, e4, if_neg (by omega)]
    | false =>
     by_cases h34 : c'.toNat = 34
     ·rw [readR_quote hlet hdig h34] at h ⊢
      exact quoF_cong _ _ _ h (by rw [Nat.sub_zero]; exact htr)
     ·rw [readR_symbol hlet hdig h34] at h ⊢
      split at h
      ·cases h
      ·rename_i h0
       injection h with e1 e2 e3 e4
       have hs : symN (c' :: r') = len := by
        rw [symN_cons] at e4 ⊢
        by_cases h2 : r[0]? = some 61 ∧ (c' = 33 ∨ c' = 60)
        ·rw [if_pos h2] at e4
         subst e4
         rw [if_pos]
         refine ⟨?_, h2.2⟩
         have a1 : (r'.take 1)[0]? = r'[0]? := by rw [List.getElem?_take]; rfl
         have a2 : (r.take 1)[0]? = r[0]? := by rw [List.getElem?_take]; rfl
         rw [← a1, htr, a2]; exact h2.1
        ·rw [if_neg h2] at e4
         split at e4
         ·rename_i hm
          subst e4
          rw [if_neg, if_pos hm]
          rintro ⟨h61, hc⟩
          have := hn 61 (by simpa using h61)
          rcases this with h | h
          ·exact h2 ⟨by simpa using h, hc⟩
          ·exact h.2 rfl
         ·omega
       rw [hs, ht, ← e1, ← e2, ← e3, e4, if_neg (by omega)]

/- GAPS -/
theorem gapF_lt_append : ∀ (k : Bool) (l w : List UInt8), gapF k l < l.length → gapF k (l ++ w) = gapF k l
 | _, [], _, h => by simp at h
 | k, c :: r, w, h => by
  rw [List.cons_append]
  rw [gapF] at h ⊢
  rw [gapF]
  split
  ·rename_i h1
   rw [if_pos h1] at h
   rw [gapF_lt_append false r w (by simp at h; omega)]
  ·rename_i h1
   rw [if_neg h1] at h
   split
   ·rename_i h2
    rw [if_pos h2] at h
    rw [gapF_lt_append true r w (by simp at h; omega)]
   ·rename_i h2
    rw [if_neg h2] at h
    split
    ·rfl
    ·rename_i h3
     rw [if_neg h3] at h
     rw [gapF_lt_append k r w (by simp at h; omega)]

/-- Within a comment, or not, behind these gaps. -/
def gapSt : Bool → List UInt8 → Bool
 | k, [] => k
 | k, c :: r => gapSt (if c.toNat = 10 then false else if c.toNat = 35 then true else k) r

theorem gapF_all_append : ∀ (k : Bool) (l w : List UInt8), gapF k l = l.length → gapF k (l ++ w) = l.length + gapF (gapSt k l) w
 | k, [], w, _ => by simp [gapSt]
 | k, c :: r, w, h => by
  rw [List.cons_append, gapSt]
  rw [gapF] at h
  rw [gapF]
  split
  ·rename_i h1
   rw [if_pos h1] at h
   rw [gapF_all_append false r w (by simp at h; omega)]
   simp; omega
  ·rename_i h1
   rw [if_neg h1] at h
   split
   ·rename_i h2
    rw [if_pos h2] at h
    rw [gapF_all_append true r w (by simp at h; omega)]
    simp; omega
   ·rename_i h2
    rw [if_neg h2] at h
    split
    ·rename_i h3
     rw [if_pos h3] at h
     simp at h
    ·rename_i h3
     rw [if_neg h3] at h
     rw [gapF_all_append k r w (by simp at h; omega)]
     simp; omega

theorem gapF_take (k : Bool) (l : List UInt8) (m : Nat) (h : gapF k l ≤ m) : gapF k (l.take m) = gapF k l := by
 rcases Nat.lt_or_ge m l.length with hm | hm
 ·have hle := gapF_le k (l.take m)
  have e : l.take m ++ l.drop m = l := List.take_append_drop m l
  rcases Nat.lt_or_ge (gapF k (l.take m)) (l.take m).length with h1 | h1
  ·have := gapF_lt_append k (l.take m) (l.drop m) h1
   rw [e] at this
   exact this.symm
  ·have h2 : gapF k (l.take m) = (l.take m).length := by omega
   have := gapF_all_append k (l.take m) (l.drop m) h2
   rw [e] at this
   simp at *
   omega
 ·rw [List.take_of_length_le hm]

/- THE RELATION WITH GAPS -/
theorem LexG.inv_ok {l : List UInt8} {i : Nat} {ts : List Tok} (h : LexG l i (.ok ts)) :
  (ts = [] ∧ gapF false l = l.length) ∨ ∃ k x n len us, readR (l.drop (gapF false l)) = .tok k x n len ∧ gapF false l < l.length ∧ ts = ⟨k, x, n, i + gapF false l⟩ :: us ∧ LexG (l.drop (gapF false l + len)) (i + gapF false l + len) (.ok us) := by
 have hle := gapF_le false l
 unfold LexG at h
 generalize hd : l.drop (gapF false l) = d at h
 generalize hr : (Except.ok ts : Except (Int × Nat) (List Tok)) = r at h
 cases h with
 | nil =>
  injection hr with hr
  have := congrArg List.length hd
  simp at this
  exact .inl ⟨hr, by omega⟩
 | err _ _ => cases hr
 | @tok _ _ k n x len r' hl hR hrest =>
  right
  cases r' with
  | error e => cases hr
  | ok us =>
   injection hr with hr
   have hlt : gapF false l < l.length := by
    have : d.length ≠ 0 := fun e => hl (List.eq_nil_of_length_eq_zero e)
    rw [← hd] at this
    simp at this
    omega
   refine ⟨_, _, _, len, us, hR, hlt, hr, ?_⟩
   unfold LexG
   rw [← hd] at hrest
   simp only [List.drop_drop] at hrest ⊢
   exact hrest

theorem LexG.all {l : List UInt8} (h : gapF false l = l.length) (i : Nat) : LexG l i (.ok []) := by
 unfold LexG
 rw [List.drop_of_length_le (by omega)]
 exact .nil _

theorem LexG.step {l : List UInt8} {i : Nat} {k n : Int} {x : List UInt8} {len : Nat} {r : Except (Int × Nat) (List Tok)} (hlt : gapF false l < l.length) (hR : readR (l.drop (gapF false l)) = .tok k x n len)
  (hr : LexG (l.drop (gapF false l + len)) (i + gapF false l + len) r) : LexG l i (consE ⟨k, x, n, i + gapF false l⟩ r) := by
 refine LexR.tok (fun h => by have := congrArg List.length h; simp at this; omega) hR ?_
 unfold LexG at hr
 simp only [List.drop_drop] at hr ⊢
 exact hr

/- TEXTS THAT ARE JOINED -/
def appE (ts : List Tok) : Except (Int × Nat) (List Tok) → Except (Int × Nat) (List Tok)
 | .error e => .error e
 | .ok us => .ok (ts ++ us)

theorem appE_cons (x : Tok) (ts : List Tok) (r : Except (Int × Nat) (List Tok)) : consE x (appE ts r) = appE (x :: ts) r := by
 cases r <;> rfl

theorem readR_append {d w : List UInt8} {k n : Int} {x : List UInt8} {len : Nat} (h : readR d = .tok k x n len) (hw : ∀ c, w[0]? = some c → innerB c = false ∧ c ≠ 61) : readR (d ++ w) = .tok k x n len := by
 obtain ⟨h1, h2⟩ := readR_len h
 refine readR_cong h (List.take_append_of_le_length h2) fun c hc => ?_
 rcases Nat.lt_or_ge len d.length with hlt | hge
 ·rw [List.getElem?_append_left hlt] at hc
  exact .inl hc
 ·rw [List.getElem?_append_right hge, show len - d.length = 0 by omega] at hc
  exact .inr (hw c hc)

theorem LexG.appendJ {w : List UInt8} {J : Nat} {R : Except (Int × Nat) (List Tok)} (hw : ∀ c, w[0]? = some c → innerB c = false ∧ c ≠ 61)
  (H : ∀ (st : Bool), LexR (w.drop (gapF st w)) (J + gapF st w) R) :
  ∀ (n : Nat) (l : List UInt8) (i : Nat) (ts : List Tok), l.length ≤ n → i + l.length = J → LexG l i (.ok ts) → LexG (l ++ w) i (appE ts R) := by
 intro n
 induction n with
 | zero =>
  intro l i ts hn hJ h
  obtain rfl : l = [] := List.eq_nil_of_length_eq_zero (by omega)
  rcases h.inv_ok with ⟨rfl, _⟩ | ⟨k, x, n, len, us, _, hlt, _⟩
  ·have := H false
   have e : appE [] R = R := by cases R <;> simp [appE]
   unfold LexG
   simp only [List.nil_append]
   rw [e, show i = J by simpa using hJ]
   exact this
  ·simp at hlt
 | succ n ih =>
  intro l i ts hn hJ h
  rcases h.inv_ok with ⟨rfl, hall⟩ | ⟨k, x, m, len, us, hR, hlt, rfl, hrest⟩
  ·have := H (gapSt false l)
   have e : appE [] R = R := by cases R <;> simp [appE]
   unfold LexG
   rw [e, gapF_all_append false l w hall, List.drop_append, List.drop_of_length_le (by omega), List.nil_append]
   rw [show l.length + gapF (gapSt false l) w - l.length = gapF (gapSt false l) w by omega, show i + (l.length + gapF (gapSt false l) w) = J + gapF (gapSt false l) w by omega]
   exact this
  ·obtain ⟨h1, h2⟩ := readR_len hR
   rw [List.length_drop] at h2
   have hg := gapF_lt_append false l w hlt
   have ih' := ih (l.drop (gapF false l + len)) (i + gapF false l + len) us (by rw [List.length_drop]; omega) (by rw [List.length_drop]; omega) hrest
   rw [← appE_cons]
   have st := LexG.step (l := l ++ w) (i := i) (k := k) (n := m) (x := x) (len := len) (r := appE us R) (by rw [hg]; simp; omega)
    (by rw [hg, List.drop_append, show gapF false l - l.length = 0 by omega, List.drop_zero]; exact readR_append hR hw)
    (by
     rw [hg, List.drop_append, show gapF false l + len - l.length = 0 by omega, List.drop_zero]
     exact ih')
   rw [hg] at st
   exact st

theorem LexG.append {w : List UInt8} {W : Nat → Except (Int × Nat) (List Tok)} (hw : ∀ c, w[0]? = some c → innerB c = false ∧ c ≠ 61)
  (H : ∀ (st : Bool) (j : Nat), LexR (w.drop (gapF st w)) (j + gapF st w) (W j)) (n : Nat) (l : List UInt8) (i : Nat) (ts : List Tok) (hn : l.length ≤ n) (h : LexG l i (.ok ts)) : LexG (l ++ w) i (appE ts (W (i + l.length))) :=
 LexG.appendJ hw (fun st => H st _) n l i ts hn rfl h

/- ERRORS STAY ERRORS -/
/- TEXTS THAT ARE CUT -/
theorem readR_take {d : List UInt8} {k n : Int} {x : List UInt8} {len : Nat} (h : readR d = .tok k x n len) {m : Nat} (hm : len ≤ m) : readR (d.take m) = .tok k x n len := by
 refine readR_cong h (by rw [List.take_take, Nat.min_eq_left hm]) fun c hc => ?_
 rw [List.getElem?_take] at hc
 split at hc
 ·exact .inl hc
 ·cases hc

/-- The text is cut behind its first token, or later. -/
theorem LexG.step_take {l : List UInt8} {i m : Nat} {k n : Int} {x : List UInt8} {len : Nat} {r : Except (Int × Nat) (List Tok)} (hlt : gapF false l < l.length) (hR : readR (l.drop (gapF false l)) = .tok k x n len)
  (hr : LexG ((l.drop (gapF false l + len)).take m) (i + gapF false l + len) r) : LexG (l.take (gapF false l + len + m)) i (consE ⟨k, x, n, i + gapF false l⟩ r) := by
 obtain ⟨h1, h2⟩ := readR_len hR
 rw [List.length_drop] at h2
 have hg := gapF_take false l (gapF false l + len + m) (by omega)
 have st := LexG.step (l := l.take (gapF false l + len + m)) (i := i) (k := k) (n := n) (x := x) (len := len) (r := r) (by rw [hg, List.length_take]; omega)
  (by rw [hg, List.drop_take]; exact readR_take hR (by omega))
  (by rw [hg, List.drop_take, show gapF false l + len + m - (gapF false l + len) = m by omega]; exact hr)
 rw [hg] at st
 exact st

theorem quoF_kind {l acc : List UInt8} {m : Nat} {k n : Int} {x : List UInt8} {len : Nat} (h : quoF l acc m = .tok k x n len) : k = 3 := (quoF_tok _ _ _ h).1

/-- A token that is no text in quotes is its own text. -/
theorem readR_text {l : List UInt8} {k n : Int} {x : List UInt8} {len : Nat} (h : readR l = .tok k x n len) (hk : k ≠ 3) : x = l.take len := by
 cases l with
 | nil => cases h
 | cons c r =>
  cases hlet : letterB c with
  | true =>
   rw [readR_letter hlet] at h
   split at h <;> cases h
   rfl
  | false =>
   cases hdig : digitB c with
   | true =>
    rw [readR_digit hlet hdig] at h
    split at h <;> cases h
    rfl
   | false =>
    by_cases h34 : c.toNat = 34
    ·rw [readR_quote hlet hdig h34] at h
     exact absurd (quoF_kind h) hk
    ·rw [readR_symbol hlet hdig h34] at h
     split at h <;> cases h
     rfl

/-- The text is cut behind a token that is no text in quotes. -/
theorem LexG.split : ∀ (n : Nat) (l : List UInt8) (i : Nat) (ts : List Tok) (q : Nat) (x : Tok), l.length ≤ n → LexG l i (.ok ts) → ts[q]? = some x → x.kind ≠ 3 →
  ∃ m, x.off + x.text.length = i + m ∧ m ≤ l.length ∧ LexG (l.take m) i (.ok (ts.take (q + 1))) ∧ LexG (l.drop m) (i + m) (.ok (ts.drop (q + 1))) := by
 intro n
 induction n with
 | zero =>
  intro l i ts q x hn h hq hk
  obtain rfl : l = [] := List.eq_nil_of_length_eq_zero (by omega)
  rcases h.inv_ok with ⟨rfl, _⟩ | ⟨_, _, _, _, _, _, hlt, _⟩
  ·simp at hq
  ·simp at hlt
 | succ n ih =>
  intro l i ts q y hn h hq hk
  rcases h.inv_ok with ⟨rfl, _⟩ | ⟨k, x, m, len, us, hR, hlt, rfl, hrest⟩
  ·simp at hq
  ·obtain ⟨h1, h2⟩ := readR_len hR
   rw [List.length_drop] at h2
   cases q with
   | zero =>
    simp only [List.getElem?_cons_zero, Option.some.injEq] at hq
    subst hq
    have hx := readR_text hR hk
    have hxl : x.length = len := by rw [hx, List.length_take, List.length_drop]; omega
    refine ⟨gapF false l + len, by simp only; omega, by omega, ?_, ?_⟩
    ·have := LexG.step_take (m := 0) (i := i) hlt hR (r := .ok []) (LexG.all (by rw [List.take_zero]; rfl) _)
     exact this
    ·simp only [List.drop_succ_cons, List.drop_zero]
     rwa [show i + (gapF false l + len) = i + gapF false l + len by omega]
   | succ q =>
    simp only [List.getElem?_cons_succ] at hq
    obtain ⟨m', e, hm, ht, hd⟩ := ih (l.drop (gapF false l + len)) (i + gapF false l + len) us q y (by rw [List.length_drop]; omega) hrest hq hk
    rw [List.length_drop] at hm
    refine ⟨gapF false l + len + m', by omega, by omega, ?_, ?_⟩
    ·exact LexG.step_take hlt hR ht
    ·rw [List.drop_drop] at hd
     simp only [List.drop_succ_cons]
     rwa [show i + (gapF false l + len + m') = i + gapF false l + len + m' by omega]

end Go.Proofs.YtnmfanjhepepbaaGreatDoor

/- Reading is local: items hang on the tokens that they read alone; programs that are joined and cut, and their errors. -/
namespace Go.Proofs.YtnmfanjhepepbaaGreatDoor
open Go StillVC

section
variable {Q : Nat → Nat → Prop}

/-- An item, by its offset. -/
def itemG (off z : Nat) : PM It := wordP z itWords 1 >>= fun k => ifP (k != 5) (nameP z) [] >>= fun nm => partP z k (x0 k nm off) >>= fun x => needP z [if k = 4 then [125] else [59]] >>= fun _ => pure x

theorem itemP_G (z : Nat) (t : Tok) (r : List Tok) : itemP z (t :: r) = itemG t.off z (t :: r) := by
 rw [itemP_eq]
 refine congrFun (congrArg (fun f => wordP z itWords 1 >>= f) (funext fun k => congrArg (fun f => ifP (k != 5) (nameP z) [] >>= f) (funext fun nm => congrArg (fun f => partP z k (x0 k nm t.off) >>= f) (funext fun x => ?_)))) _
 by_cases hk : k = 4
 ·simp only [if_pos hk]
 ·simp only [if_neg hk]

theorem itemP_nil (z : Nat) : itemP z [] = .error (7, z) := rfl


/- Tryz.progRAMS -/
/-- Tokens that are read as items. -/
inductive Its (z : Nat) : List Tok → List It → Prop
 | nil : Its z [] []
 | cons {ts r : List Tok} {x : It} {xs : List It} : itemP z ts = .ok (x, r) → Its z r xs → Its z ts (x :: xs)

theorem itemsA_iff (z : Nat) : ∀ (f : Nat) (acc : List It) (ts : List Tok) (l : List It), ts.length < f → acc.length ≤ 200 → (itemsA z f acc ts = .ok l ↔ ∃ xs, l = acc ++ xs ∧ Its z ts xs ∧ acc.length + xs.length ≤ 200)
 | 0, _, _, _, h, _ => absurd h (Nat.not_lt_zero _)
 | f + 1, acc, [], l, _, ha => by
  constructor
  ·intro h; cases h; exact ⟨[], by simp, .nil, by simpa using ha⟩
  ·rintro ⟨xs, rfl, hi, _⟩
   cases hi with
   | nil => rw [itemsA, List.append_nil]
   | cons h _ => rw [itemP_nil] at h; cases h
 | f + 1, acc, t :: q, l, hl, ha => by
  by_cases hfull : acc.length = 200
  ·rw [itemsA_full hfull]
   constructor
   ·intro h; cases h
   ·rintro ⟨xs, _, hi, hle⟩
    cases hi with
    | cons _ _ => simp at hle; omega
  ·cases hp : itemP z (t :: q) with
   | error e =>
    rw [itemsA_err hfull hp]
    constructor
    ·intro h; cases h
    ·rintro ⟨xs, _, hi, _⟩
     cases hi with
     | cons h _ => rw [hp] at h; cases h
   | ok y =>
    obtain ⟨x, r⟩ := y
    have hlt := itemP_lt hp
    simp only [List.length_cons] at hl hlt
    rw [itemsA_ok hfull hp, itemsA_iff z f (acc ++ [x]) r l (by omega) (by simp; omega)]
    constructor
    ·rintro ⟨xs, rfl, hi, hle⟩
     exact ⟨x :: xs, by simp, .cons hp hi, by simp at hle ⊢; omega⟩
    ·rintro ⟨xs, rfl, hi, hle⟩
     cases hi with
     | @cons _ r' x' xs' h hi =>
      rw [hp] at h
      cases h
      exact ⟨xs', by simp, hi, by simp at hle ⊢; omega⟩

/-- What Parse makes of a text whose tokens are known. -/
theorem parseM_ok {s : List UInt8} {ts : List Tok} {l : List It} (h : lexM s = .ok ts) : parseM s = .ok l ↔ Its s.length ts l ∧ l.length ≤ 200 := by
 unfold parseM
 rw [h]
 simp only
 rw [itemsA_iff _ _ _ _ _ (Nat.lt_succ_self _) (by simp)]
 constructor
 ·rintro ⟨xs, rfl, hi, hle⟩; simp at hle ⊢; exact ⟨hi, hle⟩
 ·rintro ⟨hi, hle⟩; exact ⟨l, rfl, hi, by simpa using hle⟩

end
end Go.Proofs.YtnmfanjhepepbaaGreatDoor

/- Tokens of texts as the parser wants them: their offsets, beginnings of texts, texts that are joined. -/
namespace Go.Proofs.YtnmfanjhepepbaaGreatDoor
open Go StillVC

theorem lexGo_ok_R : ∀ (f : Nat) (l : List UInt8) (i k : Nat) (ts : List Tok), l.length ≤ f → lexGo f l i k = .ok ts → LexR l i (.ok ts)
 | 0, l, i, k, ts, hl, h => by
  obtain rfl : l = [] := List.eq_nil_of_length_eq_zero (by omega)
  cases h
  exact .nil i
 | f + 1, l, i, k, ts, hf, h => by
  cases l with
  | nil => rw [lexGo_nil] at h; cases h; exact .nil i
  | cons c r =>
   rw [lexGo] at h
   cases hR : readR (c :: r) with
   | none => exact absurd hR (readR_some _)
   | err e => rw [hR] at h; cases h
   | tok kd x n len =>
    obtain ⟨h1, h2⟩ := readR_len hR
    rw [hR] at h
    simp only at h
    by_cases hk : k = 5000
    ·rw [if_pos hk] at h; cases h
    ·rw [if_neg hk] at h
     have hd : ((c :: r).drop (len + gapF false ((c :: r).drop len))) = ((c :: r).drop len).drop (gapF false ((c :: r).drop len)) := by rw [List.drop_drop]
     have hi : i + (len + gapF false ((c :: r).drop len)) = i + len + gapF false ((c :: r).drop len) := by omega
     rw [hd, hi] at h
     cases hg : lexGo f (((c :: r).drop len).drop (gapF false ((c :: r).drop len))) (i + len + gapF false ((c :: r).drop len)) (k + 1) with
     | error e => rw [hg] at h; cases h
     | ok us =>
      rw [hg] at h
      cases h
      have ih := lexGo_ok_R f (((c :: r).drop len).drop (gapF false ((c :: r).drop len))) _ _ us (by simp at hf h2 ⊢; omega) hg
      exact LexR.tok (i := i) (by simp) hR ih

theorem lexM_okG {t : List UInt8} {ts : List Tok} (h : lexM t = .ok ts) : LexG t 0 (.ok ts) := by
 unfold lexM at h
 have := lexGo_ok_R _ _ _ _ _ (by rw [List.length_drop]; omega) h
 unfold LexG
 rwa [Nat.zero_add]

theorem readR_tw {l : List UInt8} {n : Int} {x : List UInt8} {len : Nat} (h : readR l = .tok 4 x n len) : ∀ c, x[0]? = some c → letterB c = false := by
 cases l with
 | nil => cases h
 | cons c r =>
  obtain ⟨h1, _⟩ := readR_len h
  have hx := readR_text h (by decide)
  cases hlet : letterB c with
  | true =>
   rw [readR_letter hlet] at h
   split at h <;> cases h
  | false =>
   intro d hd
   rw [hx] at hd
   cases len with
   | zero => omega
   | succ len =>
    simp only [List.take_succ_cons, List.getElem?_cons_zero, Option.some.injEq] at hd
    subst hd
    exact hlet

/-- The tokens of a text: where they stand, and that they are as the parser wants them. -/
theorem LexG.wf : ∀ (n : Nat) (l : List UInt8) (i : Nat) (ts : List Tok), l.length ≤ n → LexG l i (.ok ts) → LW ts ∧ (∀ x ∈ ts, i ≤ x.off ∧ x.off < i + l.length) ∧ ts.length ≤ l.length := by
 intro n
 induction n with
 | zero =>
  intro l i ts hn h
  obtain rfl : l = [] := List.eq_nil_of_length_eq_zero (by omega)
  rcases h.inv_ok with ⟨rfl, _⟩ | ⟨_, _, _, _, _, _, hlt, _⟩
  ·exact ⟨LW.nil, (fun _ h => by cases h), by simp⟩
  ·simp at hlt
 | succ n ih =>
  intro l i ts hn h
  rcases h.inv_ok with ⟨rfl, _⟩ | ⟨k, x, m, len, us, hR, hlt, rfl, hrest⟩
  ·exact ⟨LW.nil, (fun _ h => by cases h), by simp⟩
  ·obtain ⟨h1, h2⟩ := readR_len hR
   rw [List.length_drop] at h2
   obtain ⟨⟨w1, w2⟩, b, c⟩ := ih (l.drop (gapF false l + len)) (i + gapF false l + len) us (by rw [List.length_drop]; omega) hrest
   rw [List.length_drop] at b c
   refine ⟨⟨fun y hy => ?_, List.pairwise_cons.2 ⟨fun y hy => ?_, w2⟩⟩, fun y hy => ?_, by simp; omega⟩
   ·rcases List.mem_cons.1 hy with rfl | hy
    ·intro hk
     simp only at hk
     subst hk
     exact readR_tw hR
    ·exact w1 y hy
   ·have := b y hy
    simp only
    omega
   ·rcases List.mem_cons.1 hy with rfl | hy
    ·simp only; omega
    ·have := b y hy; omega

end Go.Proofs.YtnmfanjhepepbaaGreatDoor
