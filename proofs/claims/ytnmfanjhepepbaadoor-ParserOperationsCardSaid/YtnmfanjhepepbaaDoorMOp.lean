/-
  Tokens that are written with a blank behind each, and read again. Expressions in the place of a kid, in plain Lean: an expression is read again whatever follows, if that is no parenthesis; and at every level that leaves room for its depth. A query's text and its expression, in plain Lean. Queries that are one operation, in plain Lean: what their texts parse to. The seven texts of ParserOperations and what is wanted of them, in plain Lean. The reference's depth of an expression. The walk of ParserOperations.
-/
import Derived.Test.YtnmfanjhepepbaaDoorStructs
import Derived.Test.YtnmfanjhepepbaaDoorMPl
import Derived.Test.YtnmfanjhepepbaaDoorMOf
import Derived.Test.YtnmfanjhepepbaaDoorMSm
import Derived.Test.YtnmfanjhepepbaaDoorMFe
import Derived.Test.YtnmfanjhepepbaaDoorMJo
set_option linter.all false
/- Tokens that are written with a blank behind each, and read again. -/
namespace Go.Proofs.YtnmfanjhepepbaaDoor
open Go

def spc (c : UInt8) : Bool := decide (c = 34 ∨ c = 92 ∨ c = 10)
def esc1 (c : UInt8) : List UInt8 := if c = 34 then [92, 34] else if c = 92 then [92, 92] else if c = 10 then [92, 110] else [c]
def escS (s : List UInt8) : List UInt8 := s.flatMap esc1
def nS (s : List UInt8) : Nat := s.countP spc

theorem esc1_len (c : UInt8) : (esc1 c).length = 1 + (if spc c = true then 1 else 0) := by
  unfold esc1 spc
  by_cases h1 : c = 34
  · rw [if_pos h1, if_pos (by simp [h1])]; rfl
  · by_cases h2 : c = 92
    · rw [if_neg h1, if_pos h2, if_pos (by simp [h2])]; rfl
    · by_cases h3 : c = 10
      · rw [if_neg h1, if_neg h2, if_pos h3, if_pos (by simp [h3])]; rfl
      · rw [if_neg h1, if_neg h2, if_neg h3, if_neg (by simp [h1, h2, h3])]; rfl

theorem esc1_other {c : UInt8} (h : spc c = false) : esc1 c = [c] := by
  unfold spc at h
  have := of_decide_eq_false h
  unfold esc1
  rw [if_neg (fun e => this (.inl e)), if_neg (fun e => this (.inr (.inl e))), if_neg (fun e => this (.inr (.inr e)))]

theorem escS_len : ∀ (s : List UInt8), (escS s).length = s.length + nS s
  | [] => rfl
  | c :: s => by
    have ih := escS_len s
    unfold escS nS at ih ⊢
    rw [List.flatMap_cons, List.length_append, ih, esc1_len, List.countP_cons]
    simp
    omega

theorem escS_take {s : List UInt8} {i : Nat} {c : UInt8} (h : s[i]? = some c) : escS (s.take (i + 1)) = escS (s.take i) ++ esc1 c := by
  unfold escS
  rw [List.take_add_one, h, List.flatMap_append]
  simp

theorem escS_take_le (s : List UInt8) (i : Nat) : (escS (s.take i)).length ≤ (escS s).length := by
  conv => rhs; rw [← List.take_append_drop i s]
  unfold escS
  rw [List.flatMap_append, List.length_append]
  omega

theorem escS_le (s : List UInt8) : (escS s).length ≤ 2 * s.length := by
  have h1 := escS_len s
  have h2 : nS s ≤ s.length := List.countP_le_length
  omega

/- A TEXT IN QUOTES, READ AGAIN -/
theorem quoF_34 (w acc : List UInt8) (m : Nat) : quoF (34 :: w) acc m = if 200 < acc.length then .err 3 else .tok 3 acc 0 (m + 2) := by
  cases w with
  | nil => rw [quoF, if_pos (by decide)]
  | cons d r => rw [quoF, if_pos (by decide)]

theorem quoF_escS : ∀ (s w acc : List UInt8) (m : Nat), acc.length + s.length ≤ 200 → quoF (escS s ++ 34 :: w) acc m = .tok 3 (acc ++ s) 0 (m + (escS s).length + 2)
  | [], w, acc, m, h => by
    show quoF (34 :: w) acc m = _
    rw [quoF_34, if_neg (by simp at h; omega)]
    simp [escS]
  | c :: s, w, acc, m, h => by
    have e : escS (c :: s) = esc1 c ++ escS s := by simp [escS]
    have hh : (acc ++ [c]).length + s.length ≤ 200 := by simp at h ⊢; omega
    rw [e]
    unfold esc1
    by_cases h34 : c = 34
    · subst h34
      rw [if_pos rfl]
      show quoF (92 :: 34 :: (escS s ++ 34 :: w)) acc m = _
      rw [quoF, if_neg (by decide), if_neg (by decide), if_pos (by decide), show escB 34 = some 34 from rfl]
      simp only
      rw [quoF_escS s w _ _ hh]
      simp; omega
    · rw [if_neg h34]
      by_cases h92 : c = 92
      · subst h92
        rw [if_pos rfl]
        show quoF (92 :: 92 :: (escS s ++ 34 :: w)) acc m = _
        rw [quoF, if_neg (by decide), if_neg (by decide), if_pos (by decide), show escB 92 = some 92 from rfl]
        simp only
        rw [quoF_escS s w _ _ hh]
        simp; omega
      · rw [if_neg h92]
        by_cases h10 : c = 10
        · subst h10
          rw [if_pos rfl]
          show quoF (92 :: 110 :: (escS s ++ 34 :: w)) acc m = _
          rw [quoF, if_neg (by decide), if_neg (by decide), if_pos (by decide), show escB 110 = some 10 from rfl]
          simp only
          rw [quoF_escS s w _ _ hh]
          simp; omega
        · rw [if_neg h10]
          have toN : ∀ {a b : UInt8}, a ≠ b → a.toNat ≠ b.toNat := fun h e => h (UInt8.toNat_inj.1 e)
          have n34 : c.toNat ≠ 34 := toN h34
          have n10 : c.toNat ≠ 10 := toN h10
          have n92 : c.toNat ≠ 92 := toN h92
          have ih := quoF_escS s w (acc ++ [c]) (m + 1) hh
          have step : quoF (c :: (escS s ++ 34 :: w)) acc m = quoF (escS s ++ 34 :: w) (acc ++ [c]) (m + 1) := by
            cases hr : escS s ++ 34 :: w with
            | nil => simp at hr
            | cons d r => rw [quoF, if_neg n34, if_neg n10, if_neg n92]
          show quoF (c :: (escS s ++ 34 :: w)) acc m = _
          rw [step, ih]
          simp; omega

theorem readR_escS (s w : List UInt8) (h : s.length ≤ 200) : readR (34 :: (escS s ++ 34 :: w)) = .tok 3 s 0 ((escS s).length + 2) := by
  rw [readR_quote (by decide) (by decide) (by decide), quoF_escS s w [] 0 (by simpa using h)]
  simp

/-- What a text in quotes takes in the text, and how long it is. -/
theorem quoF_esc_len : ∀ (l acc : List UInt8) (m : Nat) {k n : Int} {x : List UInt8} {len : Nat}, quoF l acc m = .tok k x n len → (escS acc).length = m → (escS x).length + 2 = len ∧ x.length ≤ 200
  | [], _, _, _, _, _, _, h, _ => by cases h
  | [c], acc, m, _, _, _, _, h, he => by
    rw [quoF] at h
    split at h
    · split at h <;> cases h
      exact ⟨by omega, by omega⟩
    · split at h <;> cases h
  | c :: d :: r, acc, m, _, _, _, _, h, he => by
    rw [quoF] at h
    split at h
    · split at h <;> cases h
      exact ⟨by omega, by omega⟩
    · rename_i h34
      split at h
      · cases h
      · rename_i h10
        split at h
        · split at h
          · cases h
          · rename_i y hy
            refine quoF_esc_len r _ _ h ?_
            have : spc y = true := by
              unfold escB at hy
              split at hy
              · cases hy; rfl
              · split at hy
                · cases hy; rfl
                · split at hy <;> cases hy
                  rfl
            have h2 := esc1_len y
            rw [this] at h2
            have e : escS (acc ++ [y]) = escS acc ++ esc1 y := by simp [escS]
            rw [e, List.length_append, he, h2]
            rfl
        · rename_i h92
          refine quoF_esc_len (d :: r) _ _ h ?_
          have hs : spc c = false := by
            unfold spc
            refine decide_eq_false ?_
            rintro (rfl | rfl | rfl)
            · exact h34 rfl
            · exact h92 rfl
            · exact h10 rfl
          have e : escS (acc ++ [c]) = escS acc ++ esc1 c := by simp [escS]
          rw [e, List.length_append, he, esc1_other hs]
          rfl

/- TOKENS THAT ARE WRITTEN -/
def wr (x : Tok) : List UInt8 := if x.kind = 3 then [34] ++ escS x.text ++ [34] else x.text
def wrs (ts : List Tok) : List UInt8 := ts.flatMap fun x => wr x ++ [32]

structure Good (x : Tok) : Prop where
  read : ∀ rest, readR (wr x ++ 32 :: rest) = .tok x.kind x.text x.num (wr x).length
  short : x.kind = 3 → x.text.length ≤ 200

theorem good_of {l : List UInt8} {k n : Int} {x : List UInt8} {len i : Nat} (h : readR l = .tok k x n len) : Good ⟨k, x, n, i⟩ ∧ (wr ⟨k, x, n, i⟩).length = len := by
  obtain ⟨h1, h2⟩ := readR_len h
  by_cases hk : k = 3
  · subst hk
    cases l with
    | nil => cases h
    | cons c r =>
      have key : c.toNat = 34 ∧ quoF r [] 0 = .tok 3 x n len := by
        cases hlet : letterB c with
        | true =>
          rw [readR_letter hlet] at h
          split at h <;> cases h
        | false =>
          cases hdig : digitB c with
          | true =>
            rw [readR_digit hlet hdig] at h
            split at h <;> cases h
          | false =>
            by_cases h34 : c.toNat = 34
            · rw [readR_quote hlet hdig h34] at h
              exact ⟨h34, h⟩
            · rw [readR_symbol hlet hdig h34] at h
              split at h <;> cases h
      obtain ⟨q1, q2⟩ := quoF_esc_len _ _ _ key.2 rfl
      obtain ⟨_, rfl⟩ := quoF_tok _ _ _ key.2
      have hw : wr ⟨3, x, 0, i⟩ = 34 :: (escS x ++ [34]) := rfl
      have hwl : (wr ⟨3, x, 0, i⟩).length = (escS x).length + 2 := by rw [hw]; simp
      refine ⟨⟨fun rest => ?_, fun _ => q2⟩, by rw [hwl]; exact q1⟩
      rw [hwl, hw]
      have := readR_escS x (32 :: rest) q2
      simpa using this
  · have hx := readR_text h hk
    have hw : wr ⟨k, x, n, i⟩ = x := if_neg hk
    have hxl : x.length = len := by rw [hx, List.length_take]; omega
    refine ⟨⟨fun rest => ?_, fun e => absurd e hk⟩, by rw [hw]; exact hxl⟩
    rw [hw, hxl]
    refine readR_cong h ?_ ?_
    · rw [List.take_append_of_le_length (by omega), List.take_of_length_le (by omega)]
      exact hx
    · intro c hc
      rw [List.getElem?_append_right (by omega), show len - x.length = 0 by omega] at hc
      exact .inr (blank_ok rest c hc)

theorem LexG.good : ∀ (n : Nat) (l : List UInt8) (i : Nat) (ts : List Tok), l.length ≤ n → LexG l i (.ok ts) → (∀ x ∈ ts, Good x) ∧ (wrs ts).length ≤ l.length + ts.length ∧ (∀ x ∈ ts, x.text.length ≤ l.length) := by
  intro n
  induction n with
  | zero =>
    intro l i ts hn h
    obtain rfl : l = [] := List.eq_nil_of_length_eq_zero (by omega)
    rcases h.inv_ok with ⟨rfl, _⟩ | ⟨_, _, _, _, _, _, hlt, _⟩
    · simp [wrs]
    · simp at hlt
  | succ n ih =>
    intro l i ts hn h
    rcases h.inv_ok with ⟨rfl, _⟩ | ⟨k, x, m, len, us, hR, hlt, rfl, hrest⟩
    · simp [wrs]
    · obtain ⟨h1, h2⟩ := readR_len hR
      rw [List.length_drop] at h2
      obtain ⟨g1, g2⟩ := good_of (i := i + gapF false l) hR
      obtain ⟨i1, i2, i3⟩ := ih (l.drop (gapF false l + len)) (i + gapF false l + len) us (by rw [List.length_drop]; omega) hrest
      rw [List.length_drop] at i2
      refine ⟨fun y hy => ?_, ?_, fun y hy => ?_⟩
      · rcases List.mem_cons.1 hy with rfl | hy
        · exact g1
        · exact i1 y hy
      · have e : wrs (⟨k, x, m, i + gapF false l⟩ :: us) = wr ⟨k, x, m, i + gapF false l⟩ ++ [32] ++ wrs us := by simp [wrs]
        rw [e]
        simp only [List.length_append, List.length_cons, List.length_nil, g2]
        omega
      · rcases List.mem_cons.1 hy with rfl | hy
        · show x.length ≤ l.length
          by_cases hk : k = 3
          · have hw : (wr ⟨k, x, m, i + gapF false l⟩).length = (escS x).length + 2 := by
              unfold wr; rw [if_pos hk]; simp
            have hx2 : x.length ≤ (escS x).length := by rw [escS_len]; omega
            omega
          · rw [readR_text hR hk, List.length_take, List.length_drop]; omega
        · have := i3 y hy
          rw [List.length_drop] at this
          omega

theorem LexG.blank {l : List UInt8} {i : Nat} {r : Except (Int × Nat) (List Tok)} (h : LexG l (i + 1) r) : LexG (32 :: l) i r := by
  unfold LexG at h ⊢
  rw [gapF_blank, Nat.add_comm 1, List.drop_succ_cons]
  rwa [show i + 1 + gapF false l = i + (gapF false l + 1) by omega] at h

theorem LexG.first {l : List UInt8} {i : Nat} {k n : Int} {x : List UInt8} {len : Nat} {r : Except (Int × Nat) (List Tok)} (hR : readR l = .tok k x n len) (hr : LexG (l.drop len) (i + len) r) : LexG l i (consE ⟨k, x, n, i⟩ r) := by
  have h0 := tok_gap hR
  obtain ⟨h1, h2⟩ := readR_len hR
  have st := LexG.step (l := l) (i := i) (by rw [h0]; omega) (by rw [h0, List.drop_zero]; exact hR) (by rw [h0, Nat.zero_add, Nat.add_zero]; exact hr)
  rw [h0] at st
  exact st

/-- The tokens of what is written. -/
def wrsT : List Tok → Nat → List Tok
  | [], _ => []
  | x :: ts, i => ⟨x.kind, x.text, x.num, i⟩ :: wrsT ts (i + (wr x).length + 1)

theorem wrs_lexT : ∀ (ts : List Tok) (i : Nat), (∀ x ∈ ts, Good x) → LexG (wrs ts) i (.ok (wrsT ts i))
  | [], i, _ => LexG.all rfl i
  | x :: ts, i, h => by
    have hx := h x (by simp)
    have hus := wrs_lexT ts (i + (wr x).length + 1) (fun y hy => h y (by simp [hy]))
    have e : wrs (x :: ts) = wr x ++ 32 :: wrs ts := by simp [wrs]
    rw [e]
    have := LexG.first (hx.read (wrs ts)) (i := i) (r := .ok (wrsT ts (i + (wr x).length + 1))) (by rw [List.drop_left]; exact LexG.blank hus)
    exact this

theorem wrsT_te : ∀ (ts : List Tok) (i : Nat), TE (fun _ _ => True) ts (wrsT ts i)
  | [], _ => .nil
  | _ :: ts, i => .cons ⟨rfl, rfl, rfl, trivial⟩ (wrsT_te ts _)

theorem wrsT_get : ∀ (ts : List Tok) (i k : Nat) {t : Tok}, (wrsT ts i)[k]? = some t → t.off = i + (wrs (ts.take k)).length
  | [], _, _, _, h => by simp [wrsT] at h
  | x :: ts, i, 0, t, h => by simp [wrsT] at h; subst h; simp [wrs]
  | x :: ts, i, k + 1, t, h => by
    have := wrsT_get ts (i + (wr x).length + 1) k (by simpa [wrsT] using h)
    rw [this]
    simp [wrs]
    omega

theorem wrsT_len (ts : List Tok) (i : Nat) : (wrsT ts i).length = ts.length := (wrsT_te ts i).len.symm

theorem wrs_take {ts : List Tok} {i : Nat} {x : Tok} (h : ts[i]? = some x) : wrs (ts.take (i + 1)) = wrs (ts.take i) ++ (wr x ++ [32]) := by
  unfold wrs
  rw [List.take_add_one, h, List.flatMap_append]
  simp

theorem wrs_le : ∀ (ts : List Tok) (m : Nat), (∀ x ∈ ts, x.text.length ≤ m) → (wrs ts).length ≤ ts.length * (2 * m + 3)
  | [], _, _ => by simp [wrs]
  | x :: ts, m, h => by
    have ih := wrs_le ts m (fun y hy => h y (by simp [hy]))
    have hx := h x (by simp)
    have hw : (wr x).length ≤ 2 * m + 2 := by
      unfold wr
      split
      · have := escS_le x.text
        simp only [List.length_append, List.length_cons, List.length_nil]
        omega
      · omega
    have e : wrs (x :: ts) = wr x ++ [32] ++ wrs ts := by simp [wrs]
    rw [e, List.length_cons, Nat.add_mul, Nat.one_mul]
    simp only [List.length_append, List.length_cons, List.length_nil]
    omega

theorem wrs_take_le (ts : List Tok) (i : Nat) : (wrs (ts.take i)).length ≤ (wrs ts).length := by
  conv => rhs; rw [← List.take_append_drop i ts]
  unfold wrs
  rw [List.flatMap_append, List.length_append]
  omega


end Go.Proofs.YtnmfanjhepepbaaDoor

/- Expressions in the place of a kid, in plain Lean: an expression is read again whatever follows, if that is no parenthesis; and at every level that leaves room for its depth. -/
namespace Go.Proofs.YtnmfanjhepepbaaDoor
open Go

section
variable {Q : Nat → Nat → Prop}

theorem firm_tail [QT Q] {i n : Nat} {off off' : Nat} (ho : Q off off') : Firm Q (ExQ Q) (fun z => exTail i n off z) (fun z => exTail i n off' z) := by
  refine firm_bind (f := fun z a => ifP (twoB i) (needP z [[44]] >>= fun _ => exprP z n >>= fun b => pure [a, b]) [a] >>= fun kids => opRest z i off kids >>= fun x => needP z [[41]] >>= fun _ => pure x)
    (f' := fun z a => ifP (twoB i) (needP z [[44]] >>= fun _ => exprP z n >>= fun b => pure [a, b]) [a] >>= fun kids => opRest z i off' kids >>= fun x => needP z [[41]] >>= fun _ => pure x) (par_expr n) fun a b hab => ?_
  refine firm_bind (R := ExsQ Q) (f := fun z kids => opRest z i off kids >>= fun x => needP z [[41]] >>= fun _ => pure x) (f' := fun z kids => opRest z i off' kids >>= fun x => needP z [[41]] >>= fun _ => pure x) ?_ fun ks ks' hk => ?_
  · unfold ifP
    refine par_ite (par_andq (par_need _) fun _ => par_bind (f := fun z x => pure [a, x]) (f' := fun z x => pure [b, x]) (par_expr n) fun x y hxy => par_pure ⟨hab, hxy, trivial⟩) (par_pure (ExsQ.one hab))
  · exact firm_bind (f := fun z x => needP z [[41]] >>= fun _ => pure x) (f' := fun z x => needP z [[41]] >>= fun _ => pure x) (par_rest i ho hk) fun x y hxy => firm_need _ hxy

theorem opIdx_open {t : Tok} {r : List Tok} (h : headB [40] r.head? = false) : opIdx (t :: r) = none := by
  cases ho : opIdx (t :: r) with
  | none => rfl
  | some i =>
    obtain ⟨_, t1, t2, q, e, _, w2⟩ := opIdx_is ho
    injection e with _ e
    subst e
    exact absurd (w2.symm.trans h) (by simp)

theorem expr_firm [hq : QT Q] {n z : Nat} {ts : List Tok} {x : Ex} {r : List Tok} (htw : LW ts) (h : exprP z n ts = .ok (x, r)) :
    ∃ p, p ≠ [] ∧ ts = p ++ r ∧ ∀ z' p' r', TWs p' → TWs r' → TE Q p p' → headB [40] r'.head? = false → ∃ x', exprP z' n (p' ++ r') = .ok (x', r') ∧ ExQ Q x x' := by
  cases n with
  | zero => cases h
  | succ n =>
    cases ho : opIdx ts with
    | none =>
      rw [exprP_tab ho] at h
      obtain ⟨nm, q, h1, h2⟩ := PM.inv h
      obtain ⟨t, rfl, hk, rfl⟩ := nameP_is h1
      cases h2
      refine ⟨[t], by simp, rfl, fun z' p' r' a1 a2 a3 a4 => ?_⟩
      cases a3 with
      | @cons _ t' _ _ h1 h2 =>
        cases h2
        refine ⟨exTable t'.off t.text, ?_, ?_⟩
        · rw [List.cons_append, List.nil_append, exprP_tab (opIdx_open a4), PM.bind_ok (nameP_of (h1.1 ▸ hk)), ← h1.2.1]
          rfl
        · unfold exTable
          rw [ExQ]
          exact ⟨rfl, rfl, rfl, rfl, rfl, rfl, rfl, h1.2.2.2, trivial⟩
    | some i =>
      obtain ⟨_, t, t2, q, rfl, w1, w2⟩ := opIdx_is ho
      rw [exprP_op ho w1 w2] at h
      obtain ⟨o', hoo⟩ := hq.tot t.off
      obtain ⟨p, hne, rfl, _⟩ := firm_tail (Q := Q) hoo z q x r htw.tail.tail h
      refine ⟨t :: t2 :: p, by simp, rfl, fun z' p' r' a1 a2 a3 a4 => ?_⟩
      cases a3 with
      | @cons _ t' _ _ h1 h2 => cases h2 with
        | @cons _ t2' _ p' h3 h4 =>
          obtain ⟨p1, _, e1, k⟩ := firm_tail (Q := Q) h1.2.2.2 z _ x r htw.tail.tail h
          have : p1 = p := List.append_cancel_right e1.symm
          subst this
          obtain ⟨a', ea, ra⟩ := k z' p' r' a1.tail.tail a2 h4
          refine ⟨a', ?_, ra⟩
          rw [List.cons_append, List.cons_append, exprP_op ((opIdx_eq h1 (HE.cons h3)).symm.trans ho) ((wordB_eq h1 _).symm.trans w1) ((wordB_eq h3 _).symm.trans w2)]
          exact ea
end

/-- The level does not matter, if it leaves room. -/
theorem expr_level (z : Nat) : ∀ (n : Nat) (ts : List Tok) (x : Ex) (r : List Tok), exprP z n ts = .ok (x, r) → ∀ m, exDep x ≤ m → exprP z m ts = .ok (x, r)
  | 0, _, _, _, h, _, _ => by cases h
  | n + 1, ts, x, r, h, m, hm => by
    cases hop : opIdx ts with
    | none =>
      rw [exprP_tab hop] at h
      obtain ⟨a, q, h1, h2⟩ := PM.inv h
      cases h2
      unfold exTable at hm
      rw [exDep] at hm
      cases m with
      | zero => omega
      | succ m =>
        rw [exprP_tab hop, PM.bind_ok h1]
        rfl
    | some i =>
      obtain ⟨hi, t, t2, q, rfl, w1, w2⟩ := opIdx_is hop
      rw [exprP_op hop w1 w2] at h
      unfold exTail at h
      obtain ⟨a, r1, ha, h⟩ := PM.inv h
      obtain ⟨kids, r2, hk, h⟩ := PM.inv h
      obtain ⟨y, r3, hr, h⟩ := PM.inv h
      obtain ⟨_, r4, hn, h⟩ := PM.inv h
      cases h
      obtain ⟨k, tt, c, nn, aa, bb, g, rfl, _⟩ := rest_is hr
      rw [exDep] at hm
      cases m with
      | zero => omega
      | succ m =>
        rw [exprP_op hop w1 w2]
        unfold exTail
        unfold ifP at hk ⊢
        split at hk
        · rename_i h2
          obtain ⟨_, r1', hc, hk⟩ := PM.inv hk
          obtain ⟨b, r2', hb, hk⟩ := PM.inv hk
          cases hk
          have hd : max (exDep a) (max (exDep b) 0) ≤ m := by rw [exsDep, exsDep, exsDep] at hm; omega
          rw [PM.bind_ok (expr_level z n _ _ _ ha m (by omega)), if_pos h2]
          have e : (needP z [[44]] >>= fun _ => exprP z m >>= fun b => (pure [a, b] : PM (List Ex))) r1 = .ok ([a, b], r2) := by
            rw [PM.bind_ok hc, PM.bind_ok (expr_level z n _ _ _ hb m (by omega))]
            rfl
          rw [PM.bind_ok e, PM.bind_ok hr, PM.bind_ok hn]
          rfl
        · rename_i h2
          cases hk
          have hd : max (exDep a) 0 ≤ m := by rw [exsDep, exsDep] at hm; omega
          rw [PM.bind_ok (expr_level z n _ _ _ ha m (by omega)), if_neg h2]
          have e : (pure [a] : PM (List Ex)) r1 = .ok ([a], r1) := rfl
          rw [PM.bind_ok e, PM.bind_ok hr, PM.bind_ok hn]
          rfl

end Go.Proofs.YtnmfanjhepepbaaDoor

/- A query's text and its expression, in plain Lean. -/
namespace Go.Proofs.YtnmfanjhepepbaaDoor
open Go

/-- "query q = " -/
def preQ : List UInt8 := [113, 117, 101, 114, 121, 32, 113, 32, 61, 32]

theorem LexG.word {x : Tok} (g : Good x) {w : List UInt8} {i : Nat} {R : Except (Int × Nat) (List Tok)} (h : LexG w (i + (wr x).length + 1) R) : LexG (wr x ++ 32 :: w) i (consE ⟨x.kind, x.text, x.num, i⟩ R) :=
  LexG.first (g.read w) (by rw [List.drop_left]; exact LexG.blank h)

theorem goodQuery : Good ⟨1, [113, 117, 101, 114, 121], 0, 0⟩ := (good_of (l := [113, 117, 101, 114, 121]) (len := 5) rfl).1
theorem goodQ : Good ⟨1, [113], 0, 0⟩ := (good_of (l := [113]) (len := 1) rfl).1
theorem goodEq : Good ⟨4, [61], 0, 0⟩ := (good_of (l := [61]) (len := 1) rfl).1

theorem pre_lex {w : List UInt8} {R : Except (Int × Nat) (List Tok)} (h : LexG w 10 R) :
    LexG (preQ ++ w) 0 (consE ⟨1, [113, 117, 101, 114, 121], 0, 0⟩ (consE ⟨1, [113], 0, 6⟩ (consE ⟨4, [61], 0, 8⟩ R))) :=
  LexG.word goodQuery (LexG.word goodQ (i := 6) (LexG.word goodEq (i := 8) h))

theorem words_query : ∀ (j : Nat), itWords[j]? = some [113, 117, 101, 114, 121] → j = 9 := by
  intro j h
  have hj : j < 10 := (List.getElem?_eq_some_iff.1 h).1
  match j, hj with
  | 0, _ | 1, _ | 2, _ | 3, _ | 4, _ | 5, _ | 6, _ | 7, _ | 8, _ => exact absurd h (by decide)
  | 9, _ => rfl

theorem query_of {one : List UInt8} {it : It} (h : parseM (preQ ++ (one ++ [10, 59])) = .ok [it]) :
    ∃ u z t, LexG one 10 (.ok u) ∧ wordB t [59] = true ∧ exprP z 12 (u ++ [t]) = .ok (it.expr, [t]) ∧ LW (u ++ [t]) := by
  obtain ⟨R, hR⟩ := LexG.tot one.length one 10 (Nat.le_refl _)
  cases hL : lexM (preQ ++ (one ++ [10, 59])) with
  | error y => unfold parseM at h; rw [hL] at h; cases h
  | ok ts =>
    have g := lexM_okG hL
    obtain ⟨w, _, _⟩ := LexG.wf _ _ _ _ (Nat.le_refl _) g
    obtain ⟨hI, _⟩ := (parseM_ok hL).1 h
    cases R with
    | error y =>
      obtain ⟨z, hz⟩ := LexG.err_nl [59] _ _ _ _ (Nat.le_refl _) hR
      have := LexR.det (pre_lex hz) g
      simp [consE] at this
    | ok u =>
      have h59 : LexG [59] 0 (.ok [⟨4, [59], 0, 0⟩]) := lexM_okG (t := [59]) rfl
      have hj := LexR.det (pre_lex (LexG.join_nl hR h59)) g
      simp only [appE, shiftE, consE, Except.ok.injEq] at hj
      cases hI with
      | @cons _ r _ _ hi hn =>
        cases hn
        rw [← hj] at hi w
        rw [itemP_G] at hi
        unfold itemG at hi
        obtain ⟨k, r1, hk, hi⟩ := PM.inv hi
        obtain ⟨nm, r2, hm, hi⟩ := PM.inv hi
        obtain ⟨y, r3, hp, hi⟩ := PM.inv hi
        obtain ⟨_, r4, he, hi⟩ := PM.inv hi
        cases hi
        obtain ⟨t1, j, w1, e1, hw1, rfl, hw2⟩ := wordP_is _ itWords 1 _ _ _ hk
        injection e1 with e1 e2
        subst e1 e2
        obtain ⟨hw3, _⟩ := of_decide_eq_true hw2
        simp only at hw3
        subst hw3
        obtain rfl := words_query j hw1
        have hm' : nameP _ _ = Except.ok (nm, r2) := hm
        obtain ⟨t2, e3, _, _⟩ := nameP_is hm'
        injection e3 with e3 e4
        subst e3 e4
        have hp' : queryP _ (x0 10 nm 0) _ = Except.ok (it, r3) := hp
        unfold queryP at hp'
        obtain ⟨_, r5, hq, hp'⟩ := PM.inv hp'
        obtain ⟨e, r6, hx, hp'⟩ := PM.inv hp'
        cases hp'
        obtain ⟨t3, e5, _⟩ := needP_one _ _ hq
        injection e5 with e5 e6
        subst e5 e6
        obtain ⟨t4, e7, hw4⟩ := needP_one _ _ he
        subst e7
        obtain ⟨p, e8, _⟩ := (par_expr (Q := Eq) 12).ok _ _ _ _ w.tail.tail.tail hx
        obtain ⟨e9, e10⟩ := List.append_inj_right' e8 rfl ▸ List.append_inj' e8 rfl
        subst e9
        exact ⟨_, _, t4, hR, hw4, by rw [← e8]; exact hx, by rw [← e8]; exact w.tail.tail.tail⟩

end Go.Proofs.YtnmfanjhepepbaaDoor

/- Queries that are one operation, in plain Lean: what their texts parse to. -/
namespace Go.Proofs.YtnmfanjhepepbaaDoor
open Go

def tq : Tok := ⟨1, [113, 117, 101, 114, 121], 0, 0⟩
def tn : Tok := ⟨1, [113], 0, 6⟩
def te : Tok := ⟨4, [61], 0, 8⟩

theorem readR_paren (w : List UInt8) : readR (40 :: w) = .tok 4 [40] 0 1 := by
  have e : symN (40 :: w) = 1 := by rw [symN_cons, if_neg (fun h => absurd h.2 (by decide)), if_pos (by decide)]
  rw [readR_symbol (by decide) (by decide) (by decide), e]
  rfl

theorem readR_comma (w : List UInt8) : readR (44 :: w) = .tok 4 [44] 0 1 := by
  have e : symN (44 :: w) = 1 := by rw [symN_cons, if_neg (fun h => absurd h.2 (by decide)), if_pos (by decide)]
  rw [readR_symbol (by decide) (by decide) (by decide), e]
  rfl

theorem op_lex {name w : List UInt8} {R : Except (Int × Nat) (List Tok)} (hR : readR name = .tok 1 name 0 name.length) (h : LexG w (10 + name.length + 1) R) :
    LexG (preQ ++ (name ++ 40 :: w)) 0 (consE tq (consE tn (consE te (consE ⟨1, name, 0, 10⟩ (consE ⟨4, [40], 0, 10 + name.length⟩ R))))) := by
  refine pre_lex (LexG.first (readR_append hR fun c hc => ?_) ?_)
  · simp at hc; subst hc; exact ⟨by decide, by decide⟩
  · rw [List.drop_left]
    exact LexG.first (readR_paren w) h

/-- A query whose expression is read. -/
theorem query_parse {t : List UInt8} {ts : List Tok} {y : Ex} {s : Tok} (hl : ts.length ≤ 4000) (hL : LexG t 0 (.ok (tq :: tn :: te :: ts))) (hx : exprP t.length 12 ts = .ok (y, [s])) (hs : wordB s [59] = true) :
    ∃ it, parseM t = .ok [it] ∧ it.expr = y := by
  have hM := lexM_of (by simp; omega) hL
  refine ⟨{ x0 10 [113] 0 with expr := y }, (parseM_ok hM).2 ⟨.cons ?_ .nil, by simp⟩, rfl⟩
  rw [itemP_G]
  have h1 : wordP t.length itWords 1 (tq :: tn :: te :: ts) = .ok (10, tn :: te :: ts) := rfl
  have h2 : ifP ((10 : Int) != 5) (nameP t.length) [] (tn :: te :: ts) = .ok ([113], te :: ts) := rfl
  have h3 : needP t.length [[61]] (te :: ts) = .ok ((), ts) := rfl
  have h4 : queryP t.length (x0 10 [113] 0) (te :: ts) = .ok ({ x0 10 [113] 0 with expr := y }, [s]) := by
    unfold queryP
    rw [PM.bind_ok h3, PM.bind_ok hx]
    rfl
  have h5 : partP t.length 10 (x0 10 [113] 0) (te :: ts) = .ok ({ x0 10 [113] 0 with expr := y }, [s]) := h4
  have h6 : needP t.length [if (10 : Int) = 4 then [125] else [59]] [s] = .ok ((), []) := needP_of _ hs
  unfold itemG
  rw [PM.bind_ok h1, PM.bind_ok h2]
  show (partP t.length 10 (x0 10 [113] 0) >>= fun x => needP t.length [if (10 : Int) = 4 then [125] else [59]] >>= fun _ => (pure x : PM It)) (te :: ts) = _
  rw [PM.bind_ok h5, PM.bind_ok h6]
  rfl

/-- An expression in the place of a kid. -/
theorem kid_of {u u' T : List Tok} {x : Ex} {z z' : Nat} {t : Tok} (hw : LW (u ++ [t])) (hx : exprP z 12 (u ++ [t]) = .ok (x, [t])) (hd : exDep x ≤ 11) (hu : TE QA u u') (h1 : TWs u') (h2 : TWs T) (hT : headB [40] T.head? = false) :
    ∃ x', exprP z' 11 (u' ++ T) = .ok (x', T) ∧ ExQ QA x x' := by
  have h11 := expr_level z 12 _ _ _ hx 11 hd
  obtain ⟨p, _, e, k⟩ := expr_firm (Q := QA) hw h11
  obtain ⟨rfl, _⟩ := List.append_inj' e rfl
  exact k z' u' T h1 h2 hu hT

/-- Texts behind a kid, and what they read. -/
theorem one_tail {one s : List UInt8} {j : Nat} {u T : List Tok} (h : LexG one 10 (.ok u)) (hj : 10 ≤ j) (hs : LexG s 0 (.ok T)) :
    LexG (one ++ 10 :: s) j (.ok ((u.map fun x => ⟨x.kind, x.text, x.num, x.off + (j - 10)⟩) ++ T.map fun x => ⟨x.kind, x.text, x.num, x.off + (j + one.length + 1)⟩)) := by
  have h2 := h.shift (j - 10)
  rw [show 10 + (j - 10) = j by omega] at h2
  exact LexG.join_nl h2 hs

theorem map_te (d : Nat) : ∀ (u : List Tok), TE QA u (u.map fun x => ⟨x.kind, x.text, x.num, x.off + d⟩)
  | [] => .nil
  | _ :: u => .cons ⟨rfl, rfl, rfl, trivial⟩ (map_te d u)

/-- What follows a kid. -/
def exCont (i n off z : Nat) (a : Ex) : PM Ex := ifP (twoB i) (needP z [[44]] >>= fun _ => exprP z n >>= fun b => pure [a, b]) [a] >>= fun kids => opRest z i off kids >>= fun x => needP z [[41]] >>= fun _ => pure x

theorem op_plain (i : Nat) (name : List UInt8) (F : Ex → Ex → Prop) {one tail : List UInt8} {u T : List Tok} {x : Ex} {z : Nat} {t : Tok} (hR : readR name = .tok 1 name 0 name.length) (hnl : name.length ≤ 10)
    (hop : ∀ o q, opIdx (⟨1, name, 0, 10⟩ :: ⟨4, [40], 0, o⟩ :: q) = some i) (hw1 : wordB ⟨1, name, 0, 10⟩ (opNames.getD i []) = true) (hw2 : ∀ o, wordB ⟨4, [40], 0, o⟩ [40] = true)
    (hol : one.length ≤ 1000) (htl : tail.length ≤ 1100) (hone : LexG one 10 (.ok u)) (hw : LW (u ++ [t])) (hx : exprP z 12 (u ++ [t]) = .ok (x, [t])) (hd : exDep x ≤ 11) (hs : LexG tail 0 (.ok T)) (hT : headB [40] T.head? = false)
    (hc : ∀ (z d : Nat) (x' : Ex), TWs (T.map fun x => ⟨x.kind, x.text, x.num, x.off + d⟩) → ∃ s y, exCont i 11 10 z x' (T.map fun x => ⟨x.kind, x.text, x.num, x.off + d⟩) = .ok (y, [s]) ∧ wordB s [59] = true ∧ F x' y) :
    ∃ it x', parseM (preQ ++ (name ++ 40 :: (one ++ 10 :: tail))) = .ok [it] ∧ ExQ QA x x' ∧ F x' it.expr := by
  have h1 := one_tail (j := 10 + name.length + 1) hone (by omega) hs
  have h2 := op_lex hR h1
  obtain ⟨w, _, wl⟩ := LexG.wf _ _ _ _ (Nat.le_refl _) h2
  have w5 := w.tail.tail.tail.tail.tail
  obtain ⟨x', k1, k2⟩ := kid_of (z' := (preQ ++ (name ++ 40 :: (one ++ 10 :: tail))).length) hw hx hd (map_te (10 + name.length + 1 - 10) u) w5.left.1 w5.right.1 (by cases T with
    | nil => rfl
    | cons a T => exact hT)
  obtain ⟨s, y, c1, c2, c3⟩ := hc (preQ ++ (name ++ 40 :: (one ++ 10 :: tail))).length _ x' w5.right.1
  have hl : (preQ ++ (name ++ 40 :: (one ++ 10 :: tail))).length ≤ 2200 := by
    simp only [preQ, List.length_append, List.length_cons, List.length_nil]; omega
  obtain ⟨it, p1, p2⟩ := query_parse (y := y) (s := s) (by simp only [List.length_cons] at wl ⊢; omega) h2 (by
    rw [exprP_op (hop _ _) hw1 (hw2 _)]
    unfold exTail
    rw [PM.bind_ok k1]
    exact c1) c2
  exact ⟨it, x', p1, k2, by rw [p2]; exact c3⟩

/-- "where a < "b");" -/
def tailS : List UInt8 := [119, 104, 101, 114, 101, 32, 97, 32, 60, 32, 34, 98, 34, 41, 59]
def toksS : List Tok := [⟨1, [119, 104, 101, 114, 101], 0, 0⟩, ⟨1, [97], 0, 6⟩, ⟨4, [60], 0, 8⟩, ⟨3, [98], 0, 10⟩, ⟨4, [41], 0, 13⟩, ⟨4, [59], 0, 14⟩]

theorem cont_select (z d : Nat) (x' : Ex) : ∃ s y, exCont 0 11 10 z x' (toksS.map fun x => ⟨x.kind, x.text, x.num, x.off + d⟩) = .ok (y, [s]) ∧ wordB s [59] = true ∧ y = .mk 2 [] [x'] [⟨⟨[], [97], false, vl0⟩, 3, ⟨[], [], true, ⟨1, 0, [98]⟩⟩, 0⟩] [] [] [] 0 10 :=
  ⟨_, _, rfl, rfl, rfl⟩

/-- "on a, b);" -/
def tailP : List UInt8 := [111, 110, 32, 97, 44, 32, 98, 41, 59]
def toksP : List Tok := [⟨1, [111, 110], 0, 0⟩, ⟨1, [97], 0, 3⟩, ⟨4, [44], 0, 4⟩, ⟨1, [98], 0, 6⟩, ⟨4, [41], 0, 7⟩, ⟨4, [59], 0, 8⟩]

theorem cont_project (z d : Nat) (x' : Ex) : ∃ s y, exCont 1 11 10 z x' (toksP.map fun x => ⟨x.kind, x.text, x.num, x.off + d⟩) = .ok (y, [s]) ∧ wordB s [59] = true ∧ y = .mk 3 [] [x'] [] [[97], [98]] [] [] 0 10 :=
  ⟨_, _, rfl, rfl, rfl⟩

/-- ", a as b);" -/
def tailN : List UInt8 := [44, 32, 97, 32, 97, 115, 32, 98, 41, 59]
def toksN : List Tok := [⟨4, [44], 0, 0⟩, ⟨1, [97], 0, 2⟩, ⟨1, [97, 115], 0, 4⟩, ⟨1, [98], 0, 7⟩, ⟨4, [41], 0, 8⟩, ⟨4, [59], 0, 9⟩]

theorem cont_rename (z d : Nat) (x' : Ex) : ∃ s y, exCont 5 11 10 z x' (toksN.map fun x => ⟨x.kind, x.text, x.num, x.off + d⟩) = .ok (y, [s]) ∧ wordB s [59] = true ∧ y = .mk 7 [] [x'] [] [] [97] [98] 0 10 :=
  ⟨_, _, rfl, rfl, rfl⟩

/-- "on a with sum b as c);" -/
def tailG : List UInt8 := [111, 110, 32, 97, 32, 119, 105, 116, 104, 32, 115, 117, 109, 32, 98, 32, 97, 115, 32, 99, 41, 59]
def toksG : List Tok := [⟨1, [111, 110], 0, 0⟩, ⟨1, [97], 0, 3⟩, ⟨1, [119, 105, 116, 104], 0, 5⟩, ⟨1, [115, 117, 109], 0, 10⟩, ⟨1, [98], 0, 14⟩, ⟨1, [97, 115], 0, 16⟩, ⟨1, [99], 0, 19⟩, ⟨4, [41], 0, 20⟩, ⟨4, [59], 0, 21⟩]

theorem cont_group (z d : Nat) (x' : Ex) : ∃ s y, exCont 6 11 10 z x' (toksG.map fun x => ⟨x.kind, x.text, x.num, x.off + d⟩) = .ok (y, [s]) ∧ wordB s [59] = true ∧ y = .mk 8 [] [x'] [] [[97]] [98] [99] 2 10 :=
  ⟨_, _, rfl, rfl, rfl⟩

/-- What is known of a text that is an expression. -/
structure OneQ (one : List UInt8) (x : Ex) : Prop where
  len : one.length ≤ 1000
  dep : exDep x ≤ 11
  is : ∃ u z t, LexG one 10 (.ok u) ∧ exprP z 12 (u ++ [t]) = .ok (x, [t]) ∧ LW (u ++ [t])

theorem select_plain {one : List UInt8} {x : Ex} (h : OneQ one x) : ∃ it x', parseM (preQ ++ ([115, 101, 108, 101, 99, 116] ++ 40 :: (one ++ 10 :: tailS))) = .ok [it] ∧ ExQ QA x x' ∧ it.expr = .mk 2 [] [x'] [⟨⟨[], [97], false, vl0⟩, 3, ⟨[], [], true, ⟨1, 0, [98]⟩⟩, 0⟩] [] [] [] 0 10 := by
  obtain ⟨u, z, t, h1, h2, h3⟩ := h.is
  exact op_plain 0 _ (fun x' y => y = .mk 2 [] [x'] [⟨⟨[], [97], false, vl0⟩, 3, ⟨[], [], true, ⟨1, 0, [98]⟩⟩, 0⟩] [] [] [] 0 10) rfl (by decide) (fun _ _ => rfl) rfl (fun _ => rfl) h.len (by decide) h1 h3 h2 h.dep (lexM_okG (t := tailS) (ts := toksS) rfl) rfl fun z d x' _ => cont_select z d x'

theorem project_plain {one : List UInt8} {x : Ex} (h : OneQ one x) : ∃ it x', parseM (preQ ++ ([112, 114, 111, 106, 101, 99, 116] ++ 40 :: (one ++ 10 :: tailP))) = .ok [it] ∧ ExQ QA x x' ∧ it.expr = .mk 3 [] [x'] [] [[97], [98]] [] [] 0 10 := by
  obtain ⟨u, z, t, h1, h2, h3⟩ := h.is
  exact op_plain 1 _ (fun x' y => y = .mk 3 [] [x'] [] [[97], [98]] [] [] 0 10) rfl (by decide) (fun _ _ => rfl) rfl (fun _ => rfl) h.len (by decide) h1 h3 h2 h.dep (lexM_okG (t := tailP) (ts := toksP) rfl) rfl fun z d x' _ => cont_project z d x'

theorem rename_plain {one : List UInt8} {x : Ex} (h : OneQ one x) : ∃ it x', parseM (preQ ++ ([114, 101, 110, 97, 109, 101] ++ 40 :: (one ++ 10 :: tailN))) = .ok [it] ∧ ExQ QA x x' ∧ it.expr = .mk 7 [] [x'] [] [] [97] [98] 0 10 := by
  obtain ⟨u, z, t, h1, h2, h3⟩ := h.is
  exact op_plain 5 _ (fun x' y => y = .mk 7 [] [x'] [] [] [97] [98] 0 10) rfl (by decide) (fun _ _ => rfl) rfl (fun _ => rfl) h.len (by decide) h1 h3 h2 h.dep (lexM_okG (t := tailN) (ts := toksN) rfl) rfl fun z d x' _ => cont_rename z d x'

theorem group_plain {one : List UInt8} {x : Ex} (h : OneQ one x) : ∃ it x', parseM (preQ ++ ([103, 114, 111, 117, 112] ++ 40 :: (one ++ 10 :: tailG))) = .ok [it] ∧ ExQ QA x x' ∧ it.expr = .mk 8 [] [x'] [] [[97]] [98] [99] 2 10 := by
  obtain ⟨u, z, t, h1, h2, h3⟩ := h.is
  exact op_plain 6 _ (fun x' y => y = .mk 8 [] [x'] [] [[97]] [98] [99] 2 10) rfl (by decide) (fun _ _ => rfl) rfl (fun _ => rfl) h.len (by decide) h1 h3 h2 h.dep (lexM_okG (t := tailG) (ts := toksG) rfl) rfl fun z d x' _ => cont_group z d x'

theorem close_lex : LexG [41, 59] 0 (.ok [⟨4, [41], 0, 0⟩, ⟨4, [59], 0, 1⟩]) := lexM_okG (t := [41, 59]) rfl

theorem cont_two (i : Nat) (k : Int) (hi : twoB i = true) (hk : ∀ z kids ts, opRest z i 10 kids ts = .ok (.mk k [] kids [] [] [] [] 0 10, ts)) {v : List Tok} {y : Ex} {z0 : Nat} {t : Tok} (hw : LW (v ++ [t])) (hx : exprP z0 12 (v ++ [t]) = .ok (y, [t])) (hd : exDep y ≤ 11)
    (z a b d : Nat) (c e : Tok) (hc : c = ⟨4, [41], 0, a⟩) (he : e = ⟨4, [59], 0, b⟩) (v' : List Tok) (hv : TE QA v v') (x' : Ex) (hT : TWs (⟨4, [44], 0, d⟩ :: (v' ++ [c, e]))) :
    ∃ s y2, exCont i 11 10 z x' (⟨4, [44], 0, d⟩ :: (v' ++ [c, e])) = .ok (y2, [s]) ∧ wordB s [59] = true ∧ ∃ y', ExQ QA y y' ∧ y2 = .mk k [] [x', y'] [] [] [] [] 0 10 := by
  subst hc he
  obtain ⟨y', k1, k2⟩ := kid_of (z' := z) hw hx hd hv hT.tail.left hT.tail.right rfl
  refine ⟨⟨4, [59], 0, b⟩, .mk k [] [x', y'] [] [] [] [] 0 10, ?_, rfl, y', k2, rfl⟩
  unfold exCont ifP
  rw [if_pos hi]
  have e1 : (needP z [[44]] >>= fun _ => exprP z 11 >>= fun b => (pure [x', b] : PM (List Ex))) (⟨4, [44], 0, d⟩ :: (v' ++ [⟨4, [41], 0, a⟩, ⟨4, [59], 0, b⟩])) = .ok ([x', y'], [⟨4, [41], 0, a⟩, ⟨4, [59], 0, b⟩]) := by
    rw [PM.bind_ok (needP_of z rfl), PM.bind_ok k1]
    rfl
  rw [PM.bind_ok e1, PM.bind_ok (hk _ _ _)]
  rfl

theorem two_plain (i : Nat) (k : Int) (name : List UInt8) (hi : twoB i = true) (hk : ∀ z kids ts, opRest z i 10 kids ts = .ok (.mk k [] kids [] [] [] [] 0 10, ts)) (hR : readR name = .tok 1 name 0 name.length) (hnl : name.length ≤ 10)
    (hop : ∀ o q, opIdx (⟨1, name, 0, 10⟩ :: ⟨4, [40], 0, o⟩ :: q) = some i) (hw1 : wordB ⟨1, name, 0, 10⟩ (opNames.getD i []) = true)
    {one two : List UInt8} {x y : Ex} (h : OneQ one x) (g : OneQ two y) : ∃ it x', parseM (preQ ++ (name ++ 40 :: (one ++ 10 :: (44 :: (two ++ [10, 41, 59]))))) = .ok [it] ∧ ExQ QA x x' ∧ ∃ y', ExQ QA y y' ∧ it.expr = .mk k [] [x', y'] [] [] [] [] 0 10 := by
  obtain ⟨u, z, t, h1, h2, h3⟩ := h.is
  obtain ⟨v, z2, t2, g1, g2, g3⟩ := g.is
  have hv : LexG two 1 (.ok (v.map fun x => ⟨x.kind, x.text, x.num, x.off - 9⟩)) := by
    obtain ⟨R, hR⟩ := LexG.tot two.length two 1 (Nat.le_refl _)
    have := LexR.det (hR.shift 9) g1
    cases R with
    | error y => cases this
    | ok w =>
      simp only [shiftE, Except.ok.injEq] at this
      rw [← this, List.map_map]
      have e : (List.map ((fun x : Tok => (⟨x.kind, x.text, x.num, x.off - 9⟩ : Tok)) ∘ fun x => ⟨x.kind, x.text, x.num, x.off + 9⟩) w) = w := by
        conv => rhs; rw [← List.map_id w]
        exact List.map_congr_left fun x _ => by simp
      rw [e]
      exact hR
  have hj := LexG.join_nl hv close_lex
  have hs : LexG (44 :: (two ++ [10, 41, 59])) 0 _ := LexG.first (readR_comma _) (i := 0) hj
  refine op_plain i name (fun x' y2 => ∃ y', ExQ QA y y' ∧ y2 = .mk k [] [x', y'] [] [] [] [] 0 10) hR hnl hop hw1 (fun _ => rfl) h.len (by simp; have := g.len; omega) h1 h3 h2 h.dep hs rfl fun z d x' hT => ?_
  simp only [appE, shiftE, List.map_cons, List.map_nil, List.map_append, List.map_map] at hT ⊢
  refine cont_two i k hi hk g3 g2 g.dep z _ _ _ _ _ rfl rfl _ ?_ x' hT
  clear hT hs hj hv g1 g2 g3
  induction v with
  | nil => exact .nil
  | cons a v ih => exact .cons ⟨rfl, rfl, rfl, trivial⟩ ih

end Go.Proofs.YtnmfanjhepepbaaDoor

/- The seven texts of ParserOperations and what is wanted of them, in plain Lean. -/
namespace Go.Proofs.YtnmfanjhepepbaaDoor
open Go

mutual
theorem exQ_back : ∀ (x y : Ex), ExQ QA x y → ExQ QA y x
  | .mk k t ks c n a s g o, .mk k' t' ks' c' n' a' s' g' o', h => by
    rw [ExQ] at h ⊢
    obtain ⟨rfl, rfl, rfl, rfl, rfl, rfl, rfl, _, hk⟩ := h
    exact ⟨rfl, rfl, rfl, rfl, rfl, rfl, rfl, trivial, exsQ_back ks ks' hk⟩
theorem exsQ_back : ∀ (xs ys : List Ex), ExsQ QA xs ys → ExsQ QA ys xs
  | [], [], _ => trivial
  | x :: xs, y :: ys, h => ⟨exQ_back x y h.1, exsQ_back xs ys h.2⟩
  | [], _ :: _, h => h.elim
  | _ :: _, [], h => h.elim
end

def cndW : Cnd := ⟨⟨[], [97], false, vl0⟩, 3, ⟨[], [], true, ⟨1, 0, [98]⟩⟩, 0⟩

def opsW (x y : Ex) : List Ex := [.mk 2 [] [x] [cndW] [] [] [] 0 0, .mk 3 [] [x] [] [[97], [98]] [] [] 0 0, .mk 4 [] [x, y] [] [] [] [] 0 0, .mk 5 [] [x, y] [] [] [] [] 0 0,
  .mk 6 [] [x, y] [] [] [] [] 0 0, .mk 7 [] [x] [] [] [97] [98] 0 0, .mk 8 [] [x] [] [[97]] [98] [99] 2 0]

def opsX (s t : List UInt8) : List (List UInt8) := [[115, 101, 108, 101, 99, 116, 40] ++ s ++ [10, 119, 104, 101, 114, 101, 32, 97, 32, 60, 32, 34, 98, 34, 41], [112, 114, 111, 106, 101, 99, 116, 40] ++ s ++ [10, 111, 110, 32, 97, 44, 32, 98, 41],
  [106, 111, 105, 110, 40] ++ s ++ [10, 44] ++ t ++ [10, 41], [117, 110, 105, 111, 110, 40] ++ s ++ [10, 44] ++ t ++ [10, 41], [109, 105, 110, 117, 115, 40] ++ s ++ [10, 44] ++ t ++ [10, 41],
  [114, 101, 110, 97, 109, 101, 40] ++ s ++ [10, 44, 32, 97, 32, 97, 115, 32, 98, 41], [103, 114, 111, 117, 112, 40] ++ s ++ [10, 111, 110, 32, 97, 32, 119, 105, 116, 104, 32, 115, 117, 109, 32, 98, 32, 97, 115, 32, 99, 41]]

theorem exQ_mk {k : Int} {t : List UInt8} {ks ks' : List Ex} {c : List Cnd} {n : List (List UInt8)} {a s : List UInt8} {g : Int} {o o' : Nat} (h : ExsQ QA ks' ks) : ExQ QA (.mk k t ks' c n a s g o') (.mk k t ks c n a s g o) := by
  rw [ExQ]; exact ⟨rfl, rfl, rfl, rfl, rfl, rfl, rfl, trivial, h⟩

theorem ops_of {s : List UInt8} {i : Nat} {txt full : List UInt8} {w : Ex} {l : List (List UInt8)} {m : List Ex} (e1 : l[i]? = some txt) (e2 : m[i]? = some w) (e : [113, 117, 101, 114, 121, 32, 113, 32, 61, 32] ++ txt ++ [59] = full) (hl : full.length ≤ 20000) (h : ∃ it, parseM full = .ok [it] ∧ ExQ QA it.expr w) :
    ∃ txt w it, l[i]? = some txt ∧ m[i]? = some w ∧ ([113, 117, 101, 114, 121, 32, 113, 32, 61, 32] ++ txt ++ [59]).length ≤ 20000 ∧ parseM ([113, 117, 101, 114, 121, 32, 113, 32, 61, 32] ++ txt ++ [59]) = .ok [it] ∧ ExQ QA it.expr w := by
  obtain ⟨it, h1, h2⟩ := h
  exact ⟨txt, w, it, e1, e2, by rw [e]; exact hl, by rw [e]; exact h1, h2⟩

theorem ops_plain {s t : List UInt8} {x y : Ex} (h : OneQ s x) (g : OneQ t y) (i : Nat) (hi : i < 7) : ∃ txt w it, (opsX s t)[i]? = some txt ∧ (opsW x y)[i]? = some w ∧ ([113, 117, 101, 114, 121, 32, 113, 32, 61, 32] ++ txt ++ [59]).length ≤ 20000 ∧
    parseM ([113, 117, 101, 114, 121, 32, 113, 32, 61, 32] ++ txt ++ [59]) = .ok [it] ∧ ExQ QA it.expr w := by
  have hs := h.len
  have ht := g.len
  have two : ∀ {k : Int} {full : List UInt8}, (∃ it x', parseM full = .ok [it] ∧ ExQ QA x x' ∧ ∃ y', ExQ QA y y' ∧ it.expr = .mk k [] [x', y'] [] [] [] [] 0 10) → ∃ it, parseM full = .ok [it] ∧ ExQ QA it.expr (.mk k [] [x, y] [] [] [] [] 0 0) := by
    rintro k full ⟨it, x', h1, h2, y', h3, h4⟩
    exact ⟨it, h1, by rw [h4]; exact exQ_mk ⟨exQ_back _ _ h2, exQ_back _ _ h3, trivial⟩⟩
  have one : ∀ {k : Int} {c : List Cnd} {n : List (List UInt8)} {a b : List UInt8} {gg : Int} {full : List UInt8}, (∃ it x', parseM full = .ok [it] ∧ ExQ QA x x' ∧ it.expr = .mk k [] [x'] c n a b gg 10) → ∃ it, parseM full = .ok [it] ∧ ExQ QA it.expr (.mk k [] [x] c n a b gg 0) := by
    rintro k c n a b gg full ⟨it, x', h1, h2, h4⟩
    exact ⟨it, h1, by rw [h4]; exact exQ_mk ⟨exQ_back _ _ h2, trivial⟩⟩
  match i, hi with
  | 0, _ => exact ops_of (s := s) rfl rfl (by simp [preQ, tailS]) (by simp [preQ, tailS]; omega) (one (select_plain h))
  | 1, _ => exact ops_of (s := s) rfl rfl (by simp [preQ, tailP]) (by simp [preQ, tailP]; omega) (one (project_plain h))
  | 2, _ => exact ops_of (s := s) rfl rfl (by simp [preQ]) (by simp [preQ]; omega) (two (two_plain 2 4 [106, 111, 105, 110] rfl (fun _ _ _ => rfl) rfl (by decide) (fun _ _ => rfl) rfl h g))
  | 3, _ => exact ops_of (s := s) rfl rfl (by simp [preQ]) (by simp [preQ]; omega) (two (two_plain 3 5 [117, 110, 105, 111, 110] rfl (fun _ _ _ => rfl) rfl (by decide) (fun _ _ => rfl) rfl h g))
  | 4, _ => exact ops_of (s := s) rfl rfl (by simp [preQ]) (by simp [preQ]; omega) (two (two_plain 4 6 [109, 105, 110, 117, 115] rfl (fun _ _ _ => rfl) rfl (by decide) (fun _ _ => rfl) rfl h g))
  | 5, _ => exact ops_of (s := s) rfl rfl (by simp [preQ, tailN]) (by simp [preQ, tailN]; omega) (one (rename_plain h))
  | 6, _ => exact ops_of (s := s) rfl rfl (by simp [preQ, tailG]) (by simp [preQ, tailG]; omega) (one (group_plain h))

/-- What is wanted, in memory. -/
theorem opsW_reads {W : Item} {vx vy : List Value} {x y : Ex} {b1 b2 b3 b4 b5 b6 b7 b8 b9 b10 : Nat} (hx : exR W vx x) (hy : exR W vy y) (lx : vx.length = 9) (ly : vy.length = 9)
    (r1 : Reads W 9 (.slice (some ⟨b1, 0, none⟩) 1 1) 1 vx) (r2 : Reads W 14 (.slice (some ⟨b2, 0, none⟩) 1 1) 1 (cndC cndW)) (r3 : Reads W 9 (.slice (some ⟨b3, 0, none⟩) 1 1) 1 vx) (r4 : Reads W 1 (.slice (some ⟨b4, 0, none⟩) 2 2) 2 (strs [[97], [98]]))
    (r5 : Reads W 9 (.slice (some ⟨b5, 0, none⟩) 2 2) 2 (vx ++ vy)) (r6 : Reads W 9 (.slice (some ⟨b6, 0, none⟩) 2 2) 2 (vx ++ vy)) (r7 : Reads W 9 (.slice (some ⟨b7, 0, none⟩) 2 2) 2 (vx ++ vy)) (r8 : Reads W 9 (.slice (some ⟨b8, 0, none⟩) 1 1) 1 vx)
    (r9 : Reads W 9 (.slice (some ⟨b9, 0, none⟩) 1 1) 1 vx) (r10 : Reads W 1 (.slice (some ⟨b10, 0, none⟩) 1 1) 1 (strs [[97]])) :
    ∃ ds : List Cells9, ds.flatMap Subtype.val = exC 2 [] (.slice (some ⟨b1, 0, none⟩) 1 1) (.slice (some ⟨b2, 0, none⟩) 1 1) nilV [] [] 0 0 ++ (exC 3 [] (.slice (some ⟨b3, 0, none⟩) 1 1) nilV (.slice (some ⟨b4, 0, none⟩) 2 2) [] [] 0 0 ++
      (exC 4 [] (.slice (some ⟨b5, 0, none⟩) 2 2) nilV nilV [] [] 0 0 ++ (exC 5 [] (.slice (some ⟨b6, 0, none⟩) 2 2) nilV nilV [] [] 0 0 ++ (exC 6 [] (.slice (some ⟨b7, 0, none⟩) 2 2) nilV nilV [] [] 0 0 ++
      (exC 7 [] (.slice (some ⟨b8, 0, none⟩) 1 1) nilV nilV [97] [98] 0 0 ++ exC 8 [] (.slice (some ⟨b9, 0, none⟩) 1 1) nilV (.slice (some ⟨b10, 0, none⟩) 1 1) [98] [99] 2 0))))) ∧
      ∀ (i : Nat) (w : Ex), (opsW x y)[i]? = some w → ∃ d : Cells9, ds[i]? = some d ∧ exR W d.1 w := by
  have k1 : ∀ {v : Value}, Reads W 9 v 1 vx → ∃ xs : List Cells9, Reads W 9 v [x].length (xs.flatMap Subtype.val) ∧ exsR W xs [x] := fun r => ⟨[⟨vx, lx⟩], by simpa using r, hx, trivial⟩
  have k2 : ∀ {v : Value}, Reads W 9 v 2 (vx ++ vy) → ∃ xs : List Cells9, Reads W 9 v [x, y].length (xs.flatMap Subtype.val) ∧ exsR W xs [x, y] := fun r => ⟨[⟨vx, lx⟩, ⟨vy, ly⟩], by simpa using r, hx, hy, trivial⟩
  refine ⟨[⟨exC 2 [] (.slice (some ⟨b1, 0, none⟩) 1 1) (.slice (some ⟨b2, 0, none⟩) 1 1) nilV [] [] 0 0, rfl⟩, ⟨exC 3 [] (.slice (some ⟨b3, 0, none⟩) 1 1) nilV (.slice (some ⟨b4, 0, none⟩) 2 2) [] [] 0 0, rfl⟩,
      ⟨exC 4 [] (.slice (some ⟨b5, 0, none⟩) 2 2) nilV nilV [] [] 0 0, rfl⟩, ⟨exC 5 [] (.slice (some ⟨b6, 0, none⟩) 2 2) nilV nilV [] [] 0 0, rfl⟩, ⟨exC 6 [] (.slice (some ⟨b7, 0, none⟩) 2 2) nilV nilV [] [] 0 0, rfl⟩,
      ⟨exC 7 [] (.slice (some ⟨b8, 0, none⟩) 1 1) nilV nilV [97] [98] 0 0, rfl⟩, ⟨exC 8 [] (.slice (some ⟨b9, 0, none⟩) 1 1) nilV (.slice (some ⟨b10, 0, none⟩) 1 1) [98] [99] 2 0, rfl⟩], rfl, fun i w hw => ?_⟩
  have mk : ∀ {k : Int} {t : List UInt8} {vk vc vn : Value} {a s : List UInt8} {g : Int} {o : Nat} {ks : List Ex} {c : List Cnd} {n : List (List UInt8)}, (∃ xs : List Cells9, Reads W 9 vk ks.length (xs.flatMap Subtype.val) ∧ exsR W xs ks) → Reads W 14 vc c.length (c.flatMap cndC) → Reads W 1 vn n.length (n.flatMap strC) → exR W (exC k t vk vc vn a s g o) (.mk k t ks c n a s g o) := by
    intro k t vk vc vn a s g o ks c n h1 h2 h3
    rw [exR]
    exact ⟨_, _, _, rfl, h2, h3, h1⟩
  match i with
  | 0 => simp [opsW] at hw; subst hw; exact ⟨_, rfl, mk (k1 r1) (by simpa using r2) nil_reads⟩
  | 1 => simp [opsW] at hw; subst hw; exact ⟨_, rfl, mk (k1 r3) nil_reads (by simpa [strC, strs] using r4)⟩
  | 2 => simp [opsW] at hw; subst hw; exact ⟨_, rfl, mk (k2 r5) nil_reads nil_reads⟩
  | 3 => simp [opsW] at hw; subst hw; exact ⟨_, rfl, mk (k2 r6) nil_reads nil_reads⟩
  | 4 => simp [opsW] at hw; subst hw; exact ⟨_, rfl, mk (k2 r7) nil_reads nil_reads⟩
  | 5 => simp [opsW] at hw; subst hw; exact ⟨_, rfl, mk (k1 r8) nil_reads nil_reads⟩
  | 6 => simp [opsW] at hw; subst hw; exact ⟨_, rfl, mk (k1 r9) nil_reads (by simpa [strC, strs] using r10)⟩
  | n + 7 => simp [opsW] at hw

end Go.Proofs.YtnmfanjhepepbaaDoor

/- The reference's depth of an expression. -/
namespace Go.Proofs.YtnmfanjhepepbaaDoor
open Go

theorem exsDep_app : ∀ (l : List Ex) (x : Ex), exsDep (l ++ [x]) = max (exsDep l) (exDep x)
  | [], x => by simp only [List.nil_append, exsDep]; omega
  | y :: l, x => by rw [List.cons_append, exsDep, exsDep, exsDep_app l x]; omega

theorem exsDep_take {l : List Ex} {i : Nat} {x : Ex} (h : l[i]? = some x) : exsDep (l.take (i + 1)) = max (exsDep (l.take i)) (exDep x) := by
  rw [List.take_add_one, h]
  exact exsDep_app _ _

theorem exsDep_le {l : List Ex} : ∀ (i : Nat), exsDep (l.take i) ≤ exsDep l := by
  induction l with
  | nil => intro i; simp
  | cons x l ih =>
    intro i
    cases i with
    | zero => rw [List.take_zero, exsDep]; omega
    | succ i => rw [List.take_succ_cons, exsDep, exsDep]; have := ih i; omega

set_option maxHeartbeats 8000000 in
set_option maxRecDepth 100000 in
theorem depth_spec (I : Item) : ∀ (n : Nat) (x : Ex) (c : List Value) (h : Heap) (_ : exDep x ≤ n) (_ : n ≤ 1000) (_ : ExB 10000 x) (_ : exR I c x) (_ : SatE I h),
    SpecR Tryd.prog 11 [.agg ⟨c⟩] h fun r h' => r = .int .i64 (exDep x) ∧ Own h [] h'
  | 0, .mk _ _ _ _ _ _ _ _ _, _, _, hd, _, _, _, _ => absurd hd (by rw [exDep]; omega)
  | n + 1, .mk k t ks cs ns a s g o, c, h, hd, hn, hB, hc, hIe => by
    have hI := hIe.sat
    rw [exDep] at hd ⊢
    rw [ExB] at hB
    rw [exR] at hc
    obtain ⟨vk, vc, vn, rfl, r1, r2, xs, r3, rk⟩ := hc
    obtain ⟨b1, b2, b3, b4⟩ := hB
    have q3 := r3 h hI
    obtain ⟨e1, f1, rfl⟩ := r1.isS hI
    obtain ⟨e2, f2, rfl⟩ := r2.isS hI
    obtain ⟨e3, f3, rfl⟩ := r3.isS hI
    unfold exC
    refine Spec.enter Tryd.func11 rfl Tryd.ntmps11 (by kernel_rfl) ?_
    have o0 := Own.refl h
    have hxs : xs.length = ks.length := exsR_len rk
    (refine RunVC.boxO o0 rfl ?_; intro b10 m10 o10)
    refine LoopVC.intro [3, 4, 5, 6, 7, 8, 9, 10, 11, 12, 13, 14, 15, 16, 17, 18, 19] [3, 4] (fun vs hh => ∃ (i m : Nat), i ≤ ks.length ∧ m = exsDep (ks.take i) ∧ vs = [.int .i64 m, .int .i64 i] ∧ Own h [box b10 [.int .i64 k, .string ⟨⟨t⟩⟩, .slice e3 ks.length f3, .slice e1 cs.length f1, .slice e2 ns.length f2, .string ⟨⟨a⟩⟩, .string ⟨⟨s⟩⟩, .int .i64 g, .int .i64 o] 43] hh) (fun vs _ => match vs with | [_, .int _ i] => ks.length - i.toNat | _ => 0) ?_ ?_
    · exact ⟨0, 0, by omega, by rw [List.take_zero, exsDep], rfl, by assumption⟩
    · rintro vs junk hh ⟨i, m, hi, hm, rfl, oh⟩
      have hle := exsDep_le (l := ks) i
      by_cases hlt : i < ks.length
      · obtain ⟨kx, hkx⟩ := getx hlt
        obtain ⟨cx, hcx, hrx⟩ := exsR_get rk hkx
        have hdk := exsDep_get hkx
        have htk := exsDep_take hkx
        refine StillVC.run (StillVC.fieldAddr st43 rfl rfl rfl ?_)
        refine StillVC.run (StillVC.loadO oh 0 rfl ty41 rfl rfl ?_)
        refine StillVC.run (StillVC.lenV rfl sl41 ?_)
        refine Br.dec (fun c113 => ?_) (fun hc => absurd (by omega) hc)
        refine StillVC.run (StillVC.fieldAddr st43 rfl rfl rfl ?_)
        refine StillVC.run (StillVC.loadO oh 0 rfl ty41 rfl rfl ?_)
        refine StillVC.run (StillVC.idxN sl41 ty43 (q3.ext oh.ext) rfl (by omega) (by omega) ?_)
        refine StillVC.run (StillVC.loadFT ty43 (q3.ext oh.ext) (fun y : Cells9 => y.2) (by decide) rfl (by assumption) ?_)
        refine CallVC.ret (depth_spec I n kx cx.1 _ (by omega) (by omega) (exsB_get b4 hkx) hrx (hIe.ext oh.ext)) ?_
        rintro _ hs3 ⟨rfl, oc3⟩
        have os3 := oc3.thenE oh
        clear oc3
        refine StillVC.run (StillVC.max2 rfl rfl ?_)
        refine Ar.i64 (by omega) (by omega) ?_
        refine ⟨rfl, ?_⟩
        exact ⟨⟨i + 1, max m (exDep kx), by omega, by omega, by rw [show ((max m (exDep kx) : Nat) : Int) = max (m : Int) (exDep kx : Int) by omega]; rfl, Own.sel (by assumption) [0] rfl⟩, by simp; omega⟩
      · rw [List.take_of_length_le (by omega)] at hm
        subst hm
        refine StillVC.run (StillVC.fieldAddr st43 rfl rfl rfl ?_)
        refine StillVC.run (StillVC.loadO oh 0 rfl ty41 rfl rfl ?_)
        refine StillVC.run (StillVC.lenV rfl sl41 ?_)
        refine Br.dec (fun hc => absurd hc (by omega)) (fun c303 => ?_)
        refine Ar.i64 (by omega) (by omega) ?_
        refine RetVC.one rfl ?_
        exact ⟨rfl, Own.sel (by assumption) [] rfl⟩

end Go.Proofs.YtnmfanjhepepbaaDoor

/- The walk of ParserOperations. -/
namespace Go.Proofs.YtnmfanjhepepbaaDoor
open Go

/-- No expression is deeper than the levels that are left. -/
theorem expr_dep (z : Nat) : ∀ (n : Nat) (ts : List Tok) (x : Ex) (r : List Tok), exprP z n ts = .ok (x, r) → exDep x ≤ n
  | 0, _, _, _, h => by cases h
  | n + 1, ts, x, r, h => by
    cases hop : opIdx ts with
    | none =>
      rw [exprP_tab hop] at h
      obtain ⟨a, q, h1, h2⟩ := PM.inv h
      cases h2
      unfold exTable
      simp only [exDep, exsDep]
      omega
    | some i =>
      obtain ⟨hi, t, t2, q, rfl, w1, w2⟩ := opIdx_is hop
      rw [exprP_op hop w1 w2] at h
      unfold exTail at h
      obtain ⟨a, r1, ha, h⟩ := PM.inv h
      obtain ⟨kids, r2, hk, h⟩ := PM.inv h
      obtain ⟨y, r3, hr, h⟩ := PM.inv h
      obtain ⟨_, r4, hn, h⟩ := PM.inv h
      cases h
      obtain ⟨k, tt, c, nn, aa, bb, g, rfl, _⟩ := rest_is hr
      have h1 := expr_dep z n _ _ _ ha
      unfold ifP at hk
      split at hk
      · obtain ⟨_, r1', hc, hk⟩ := PM.inv hk
        obtain ⟨b, r2', hb, hk⟩ := PM.inv hk
        cases hk
        have h2 := expr_dep z n _ _ _ hb
        simp only [exDep, exsDep]
        omega
      · cases hk
        simp only [exDep, exsDep]
        omega

/-- An expression's nine cells. -/
theorem exR_nine {I : Item} {c : List Value} {x : Ex} (h : exR I c x) {hp : Heap} (hI : I.sat hp) : ∃ k t a1 n1 b1 a2 n2 b2 a3 n3 b3 a s g o,
    c = [.int .i64 k, .string ⟨⟨t⟩⟩, .slice a1 n1 b1, .slice a2 n2 b2, .slice a3 n3 b3, .string ⟨⟨a⟩⟩, .string ⟨⟨s⟩⟩, .int .i64 g, .int .i64 o] := by
  cases x with
  | mk k t ks cs ns a s' g o =>
    rw [exR] at h
    obtain ⟨uk, uc', un, rfl, p1, p2, ys, p3, pk⟩ := h
    obtain ⟨y7, z7, rfl⟩ := p3.isS hI
    obtain ⟨y8, z8, rfl⟩ := p1.isS hI
    obtain ⟨y9, z9, rfl⟩ := p2.isS hI
    exact ⟨_, _, _, _, _, _, _, _, _, _, _, _, _, _, _, rfl⟩

def allI : List Item → Item
  | [] => emptyI
  | x :: L => joinI x (allI L)

theorem allI_sat : ∀ {L : List Item} (k : Nat) {x : Item} {h : Heap}, L[k]? = some x → (allI L).sat h → x.sat h
  | _ :: _, 0, _, _, hk, s => by simp at hk; subst hk; exact s.1
  | _ :: L, k + 1, _, _, hk, s => allI_sat (L := L) k (by simpa using hk) s.2

theorem Own.allI {B : Base} {h : Heap} : ∀ (L M : List Item), Own B (L ++ M) h → Own B (Go.Proofs.YtnmfanjhepepbaaDoor.allI L :: M) h
  | [], _, o => o.emptyI'
  | x :: L, M, o => by
    have o1 : Own B (L ++ (x :: M)) h := OwnR.perm o (by
      refine List.Perm.append_right _ ?_
      exact (List.perm_middle (l₁ := L) (l₂ := M) (a := x)).symm)
    have o2 := Own.allI L (x :: M) o1
    have o3 : Own B (x :: Go.Proofs.YtnmfanjhepepbaaDoor.allI L :: M) h := OwnR.perm o2 (List.Perm.swap _ _ _)
    exact o3.join

theorem Own.allK {B : Base} {L : List Item} {h : Heap} (o : Own B L h) (ks : List Nat) (k : Nat) {x : Item} (hk : L[k]? = some x) (hd : dst (ks ++ [k]) = true) : ∃ W : Item, Own B [W, x] h ∧ ∀ (j : Nat) (z : Item), (pick L ks)[j]? = some z → ∀ h', W.sat h' → z.sat h' := by
  have o1 := o.sel (ks ++ [k]) hd
  rw [pick_append] at o1
  have e : pick L [k] = [x] := by simp only [pick, hk]
  rw [e] at o1
  exact ⟨_, Own.allI _ _ o1, fun j z hz h' hs => allI_sat j hz hs⟩

set_option maxHeartbeats 8000000 in
set_option maxRecDepth 100000 in
theorem opsLaw_spec (s t : List UInt8) (h : Heap) (hs : s.length ≤ 9223372036854775807) (ht : t.length ≤ 9223372036854775807) (hW : WordsH h) : SpecR Tryd.prog 5 [.string ⟨⟨s⟩⟩, .string ⟨⟨t⟩⟩] h fun v h' => v = .bool true ∧ Own h [] h' := by
  refine Spec.enter Tryd.func5 rfl Tryd.ntmps5 (by kernel_rfl) ?_
  have o0 := Own.refl h
  refine CallVC.ret (head_spec _ hW) ?_
  rintro _ h1 ⟨rfl, oc⟩
  have o1 := oc.thenE (by assumption)
  clear oc
  by_cases hbig : 1000 < s.length ∨ 1000 < t.length
  · rcases hbig with hbig | hbig
    · refine StillVC.run (StillVC.lenS rfl str9 ?_)
      refine Br.dec (fun c21 => ?_) (fun hc => absurd (by omega) hc)
      refine Br.tt ?_
      refine RetVC.one rfl ?_
      exact ⟨rfl, Own.sel (by assumption) [] rfl⟩
    · by_cases h2 : 1000 < s.length
      · refine StillVC.run (StillVC.lenS rfl str9 ?_)
        refine Br.dec (fun c41 => ?_) (fun hc => absurd (by omega) hc)
        refine Br.tt ?_
        refine RetVC.one rfl ?_
        exact ⟨rfl, Own.sel (by assumption) [] rfl⟩
      · refine StillVC.run (StillVC.lenS rfl str9 ?_)
        refine Br.dec (fun hc => absurd hc (by omega)) (fun c61 => ?_)
        refine StillVC.run (StillVC.lenS rfl str9 ?_)
        refine Br.dec (fun c63 => ?_) (fun hc => absurd (by omega) hc)
        refine RetVC.one rfl ?_
        exact ⟨rfl, Own.sel (by assumption) [] rfl⟩
  have hs2 : s.length ≤ 1000 := by omega
  have ht2 : t.length ≤ 1000 := by omega
  refine StillVC.run (StillVC.lenS rfl str9 ?_)
  refine Br.dec (fun hc => absurd hc (by omega)) (fun c101 => ?_)
  refine StillVC.run (StillVC.lenS rfl str9 ?_)
  refine Br.dec (fun hc => absurd hc (by omega)) (fun c103 => ?_)
  refine StillVC.run (StillVC.strAdd rfl rfl (by first | omega | (simp; omega)) ?_)
  refine StillVC.run (StillVC.strAdd rfl rfl (by first | omega | (simp; omega)) ?_)
  have es : [113, 117, 101, 114, 121, 32, 113, 32, 61, 32] ++ s ++ [10, 59] = preQ ++ (s ++ [10, 59]) := by simp [preQ]
  refine CallVC.ret (parse_cases (by simp; omega) _ (hW.ext (Own.ext (h := h1) (by assumption)))) ?_
  rintro _ h2 (⟨e, i, hM, hne, rfl, oc⟩ | ⟨xs, ts, ua, uc, I, hM, hL, hI, hlen, rfl, hp, oc⟩)
  · have o2 := oc.thenE (by assumption)
    clear oc
    (refine RunVC.alloc o2 ty25 ?_; intro b120 m120 o120)
    (refine RunVC.storeL o120 0 rfl ty25 rfl (by decide) (And.intro ⟨rfl, rfl⟩ ?_); intro m121 o121)
    refine StillVC.run (StillVC.strAdd rfl rfl (by first | omega | (simp; omega)) ?_)
    refine StillVC.run (StillVC.strAdd rfl rfl (by first | omega | (simp; omega)) ?_)
    refine CallVC.ret (parse_cases (by simp; omega) _ (hW.ext (Own.ext (h := m121) (by assumption)))) ?_
    rintro _ h3 (⟨e2, i2, hM2, hne2, rfl, oc⟩ | ⟨ys, ts2, va, vc, J, hM2, hL2, hJ, hlen2, rfl, hp2, oc⟩)
    · have o3 := oc.thenE (by assumption)
      clear oc
      (refine RunVC.alloc o3 ty25 ?_; intro b140 m140 o140)
      (refine RunVC.storeL o140 1 rfl ty25 rfl (by decide) (And.intro ⟨rfl, rfl⟩ ?_); intro m141 o141)
      refine Br.ndec (fun c142 => ?_) (fun hc => absurd hc (by first | omega | assumption | decide | exact rfl))
      refine Br.tt ?_
      refine RetVC.one rfl ?_
      exact ⟨rfl, Own.sel (by assumption) [] rfl⟩
    · have o3 := Own.call (by assumption) oc
      clear oc
      (refine RunVC.alloc o3 ty25 ?_; intro b160 m160 o160)
      (refine RunVC.storeL o160 2 rfl ty25 rfl (by decide) (And.intro ⟨rfl, rfl⟩ ?_); intro m161 o161)
      refine Br.ndec (fun c162 => ?_) (fun hc => absurd hc (by first | omega | assumption | decide | exact rfl))
      refine Br.tt ?_
      refine RetVC.one rfl ?_
      exact ⟨rfl, Own.sel (by assumption) [] rfl⟩
  · have o2 := Own.call (by assumption) oc
    simp only [List.nil_append] at o2
    clear oc
    (refine RunVC.alloc o2 ty25 ?_; intro b200 m200 o200)
    (refine RunVC.storeL o200 1 rfl ty25 rfl (by decide) (And.intro ⟨rfl, rfl⟩ ?_); intro m201 o201)
    refine StillVC.run (StillVC.strAdd rfl rfl (by first | omega | (simp; omega)) ?_)
    refine StillVC.run (StillVC.strAdd rfl rfl (by first | omega | (simp; omega)) ?_)
    have et : [113, 117, 101, 114, 121, 32, 113, 32, 61, 32] ++ t ++ [10, 59] = preQ ++ (t ++ [10, 59]) := by simp [preQ]
    refine CallVC.ret (parse_cases (by simp; omega) _ (hW.ext (Own.ext (h := m201) (by assumption)))) ?_
    rintro _ h3 (⟨e2, i2, hM2, hne2, rfl, oc⟩ | ⟨ys, ts2, va, vc, J, hM2, hL2, hJ, hlen2, rfl, hp2, oc⟩)
    · have o3 := oc.thenE (by assumption)
      clear oc
      (refine RunVC.alloc o3 ty25 ?_; intro b240 m240 o240)
      (refine RunVC.storeL o240 2 rfl ty25 rfl (by decide) (And.intro ⟨rfl, rfl⟩ ?_); intro m241 o241)
      refine Br.ff ?_
      refine Br.ndec (fun c242 => ?_) (fun hc => absurd hc (by first | omega | assumption | decide | exact rfl))
      refine Br.tt ?_
      refine RetVC.one rfl ?_
      exact ⟨rfl, Own.sel (by assumption) [] rfl⟩
    · have o3 := Own.call (by assumption) oc
      simp only [List.cons_append, List.nil_append] at o3
      clear oc
      by_cases h1x : xs.length = 1
      · by_cases h1y : ys.length = 1
        · obtain ⟨x, rfl⟩ := List.length_eq_one_iff.1 h1x
          obtain ⟨y, rfl⟩ := List.length_eq_one_iff.1 h1y
          rw [es] at hM
          rw [et] at hM2
          obtain ⟨u, z, t1, q1, q2, q3, q4⟩ := query_of hM
          obtain ⟨u2, z2, t2, g1, g2, g3, g4⟩ := query_of hM2
          have hBx := (hI.bound (N := 9999) (by decide) (by have := (lexM_props.2 ts hL).1; omega) x (by simp)).expr
          have hBy := (hJ.bound (N := 9999) (by decide) (by have := (lexM_props.2 ts2 hL2).1; omega) y (by simp)).expr
          obtain ⟨c1, rp1, ri1⟩ := progR_one hp
          obtain ⟨c2, rp2, ri2⟩ := progR_one hp2
          obtain ⟨vc1, vn1, vt1, vf1, vv1, vd1, e10, e11, e12, e13, e14, e15, e16, e17, e18, rfl, _, _, _, _, _, _, rx⟩ := ri1
          obtain ⟨vc2, vn2, vt2, vf2, vv2, vd2, e20, e21, e22, e23, e24, e25, e26, e27, e28, rfl, _, _, _, _, _, _, ry⟩ := ri2
          obtain ⟨xk, xt, xa1, xn1, xb1, xa2, xn2, xb2, xa3, xn3, xb3, xa, xs', xg, xo, ex⟩ := exR_nine rx (Own.satK o3 0 rfl)
          obtain ⟨yk, yt, ya1, yn1, yb1, ya2, yn2, yb2, ya3, yn3, yb3, ya, ys', yg, yo, ey⟩ := exR_nine ry (Own.satK o3 2 rfl)
          simp only [List.cons.injEq, and_true] at ex ey
          obtain ⟨rfl, rfl, rfl, rfl, rfl, rfl, rfl, rfl, rfl⟩ := ex
          obtain ⟨rfl, rfl, rfl, rfl, rfl, rfl, rfl, rfl, rfl⟩ := ey
          have w1 := rp1 _ (Own.satK o3 0 rfl)
          have w2 := rp2 _ (Own.satK o3 2 rfl)
          unfold itC at w1 w2
          have dx := expr_dep _ _ _ _ _ q3
          have dy := expr_dep _ _ _ _ _ g3
          (refine RunVC.alloc o3 ty25 ?_; intro b300 m300 o300)
          (refine RunVC.storeL o300 3 rfl ty25 rfl (by decide) (And.intro ⟨rfl, rfl⟩ ?_); intro m301 o301)
          refine Br.ff ?_
          refine Br.ff ?_
          refine StillVC.run (StillVC.fieldAddr st25 rfl rfl rfl ?_)
          refine StillVC.run (StillVC.loadO o301 1 rfl ty23 rfl rfl ?_)
          refine StillVC.run (StillVC.lenV rfl sl23 ?_)
          refine Br.ndec (fun hc => absurd (by first | omega | assumption | decide | exact rfl) hc) (fun c305 => ?_)
          refine StillVC.run (StillVC.fieldAddr st25 rfl rfl rfl ?_)
          refine StillVC.run (StillVC.loadO o301 3 rfl ty23 rfl rfl ?_)
          refine StillVC.run (StillVC.lenV rfl sl23 ?_)
          refine Br.ndec (fun hc => absurd (by first | omega | assumption | decide | exact rfl) hc) (fun c309 => ?_)
          refine StillVC.run (StillVC.fieldAddr st25 rfl rfl rfl ?_)
          refine StillVC.run (StillVC.loadO o301 1 rfl ty23 rfl rfl ?_)
          refine StillVC.run (StillVC.idxN sl23 ty45 (o301.reads 0 rp1 rfl) rfl (by omega) (by omega) ?_)
          refine StillVC.run (StillVC.fieldAdr (o301.reads 0 rp1 rfl) (by omega) st45 rfl rfl rfl ?_)
          refine StillVC.run (StillVC.loadAN (o301.reads 0 rp1 rfl) ty43 rfl rfl rfl (by decide) ?_)
          (refine RunVC.alloc o301 ty43 ?_; intro b315 m315 o315)
          (refine RunVC.storeL o315 4 rfl ty43 rfl (by decide) (And.intro ⟨rfl, rfl⟩ ?_); intro m316 o316)
          refine StillVC.run (StillVC.fieldAddr st25 rfl rfl rfl ?_)
          refine StillVC.run (StillVC.loadO o316 3 rfl ty23 rfl rfl ?_)
          refine StillVC.run (StillVC.idxN sl23 ty45 (o316.reads 2 rp2 rfl) rfl (by omega) (by omega) ?_)
          refine StillVC.run (StillVC.fieldAdr (o316.reads 2 rp2 rfl) (by omega) st45 rfl rfl rfl ?_)
          refine StillVC.run (StillVC.loadAN (o316.reads 2 rp2 rfl) ty43 rfl rfl rfl (by decide) ?_)
          (refine RunVC.alloc o316 ty43 ?_; intro b322 m322 o322)
          (refine RunVC.storeL o322 5 rfl ty43 rfl (by decide) (And.intro ⟨rfl, rfl⟩ ?_); intro m323 o323)
          refine StillVC.run (StillVC.loadON o323 4 rfl ty43 rfl rfl rfl ?_)
          refine CallVC.ret (depth_spec I 12 x.expr _ _ dx (by decide) hBx rx (Own.satE (by assumption) 0 rfl)) ?_
          rintro _ h4 ⟨rfl, oc⟩
          have o4 := oc.thenE (by assumption)
          by_cases hdx : 11 < exDep x.expr
          · refine Br.dec (fun c400 => ?_) (fun hc => absurd (by omega) hc)
            refine Br.tt ?_
            refine RetVC.one rfl ?_
            exact ⟨rfl, Own.sel (by assumption) [] rfl⟩
          · refine Br.dec (fun hc => absurd hc (by omega)) (fun c440 => ?_)
            refine StillVC.run (StillVC.loadON o4 5 rfl ty43 rfl rfl rfl ?_)
            refine CallVC.ret (depth_spec J 12 y.expr _ _ dy (by decide) hBy ry (Own.satE o4 2 rfl)) ?_
            rintro _ h5 ⟨rfl, oc⟩
            have o5 := oc.thenE o4
            by_cases hdy : 11 < exDep y.expr
            · refine Br.dec (fun c480 => ?_) (fun hc => absurd (by omega) hc)
              refine RetVC.one rfl ?_
              exact ⟨rfl, Own.sel (by assumption) [] rfl⟩
            · refine Br.dec (fun hc => absurd hc (by omega)) (fun c520 => ?_)
              refine StillVC.run (StillVC.buildK st54 ?_)
              refine And.intro rfl ?_
              refine StillVC.run (StillVC.buildK st52 ?_)
              refine And.intro rfl ?_
              refine And.intro rfl ?_
              refine StillVC.run (StillVC.buildK st54 ?_)
              refine And.intro rfl ?_
              refine And.intro rfl ?_
              refine StillVC.run (StillVC.buildK st56 ?_)
              refine And.intro rfl ?_
              refine And.intro rfl ?_
              refine And.intro rfl ?_
              (refine RunVC.alloc o5 ty56 ?_; intro b525 m525 o525)
              (refine RunVC.storeL o525 6 rfl ty56 rfl (by decide) (And.intro ⟨rfl, rfl⟩ ?_); intro m526 o526)
              refine StillVC.run (StillVC.strAdd rfl rfl (by first | omega | (simp; omega)) ?_)
              refine StillVC.run (StillVC.strAdd rfl rfl (by first | omega | (simp; omega)) ?_)
              refine StillVC.run (StillVC.strAdd rfl rfl (by first | omega | (simp; omega)) ?_)
              refine StillVC.run (StillVC.strAdd rfl rfl (by first | omega | (simp; omega)) ?_)
              refine StillVC.run (StillVC.strAdd rfl rfl (by first | omega | (simp; omega)) ?_)
              refine StillVC.run (StillVC.strAdd rfl rfl (by first | omega | (simp; omega)) ?_)
              refine StillVC.run (StillVC.strAdd rfl rfl (by first | omega | (simp; omega)) ?_)
              refine StillVC.run (StillVC.strAdd rfl rfl (by first | omega | (simp; omega)) ?_)
              refine StillVC.run (StillVC.strAdd rfl rfl (by first | omega | (simp; omega)) ?_)
              refine StillVC.run (StillVC.strAdd rfl rfl (by first | omega | (simp; omega)) ?_)
              refine StillVC.run (StillVC.strAdd rfl rfl (by first | omega | (simp; omega)) ?_)
              refine StillVC.run (StillVC.strAdd rfl rfl (by first | omega | (simp; omega)) ?_)
              refine StillVC.run (StillVC.strAdd rfl rfl (by first | omega | (simp; omega)) ?_)
              refine StillVC.run (StillVC.strAdd rfl rfl (by first | omega | (simp; omega)) ?_)
              refine StillVC.run (StillVC.strAdd rfl rfl (by first | omega | (simp; omega)) ?_)
              refine StillVC.run (StillVC.strAdd rfl rfl (by first | omega | (simp; omega)) ?_)
              refine StillVC.run (StillVC.strAdd rfl rfl (by first | omega | (simp; omega)) ?_)
              refine StillVC.run (StillVC.strAdd rfl rfl (by first | omega | (simp; omega)) ?_)
              refine StillVC.run (StillVC.strAdd rfl rfl (by first | omega | (simp; omega)) ?_)
              refine StillVC.run (StillVC.strAdd rfl rfl (by first | omega | (simp; omega)) ?_)
              (refine RunVC.lit o526 sl36 ty9 rfl rfl (by decide) (And.intro rfl ?_); intro b547 m547 o547)
              refine StillVC.run (StillVC.loadON o547 4 rfl ty43 rfl rfl rfl ?_)
              (refine RunVC.litN o547 sl41 ty43 rfl rfl (by decide) ?_)
              refine And.intro rfl ?_
              intro b550 m550 o550
              refine StillVC.run (StillVC.loadON o550 6 rfl ty56 rfl rfl rfl ?_)
              (refine RunVC.litN o550 sl40 ty56 rfl rfl (by decide) ?_)
              refine And.intro rfl ?_
              intro b553 m553 o553
              refine StillVC.run (StillVC.buildK st43 ?_)
              refine And.intro rfl ?_
              refine And.intro rfl ?_
              refine And.intro rfl ?_
              refine StillVC.run (StillVC.loadON o553 4 rfl ty43 rfl rfl rfl ?_)
              (refine RunVC.litN o553 sl41 ty43 rfl rfl (by decide) ?_)
              refine And.intro rfl ?_
              intro b557 m557 o557
              (refine RunVC.lit o557 sl36 ty9 rfl rfl (by decide) (And.intro rfl ?_); intro b558 m558 o558)
              refine StillVC.run (StillVC.buildK st43 ?_)
              refine And.intro rfl ?_
              refine And.intro rfl ?_
              refine And.intro rfl ?_
              refine StillVC.run (StillVC.loadON o558 4 rfl ty43 rfl rfl rfl ?_)
              refine StillVC.run (StillVC.loadON o558 5 rfl ty43 rfl rfl rfl ?_)
              (refine RunVC.litN o558 sl41 ty43 rfl rfl (by decide) ?_)
              refine And.intro rfl ?_
              refine And.intro rfl ?_
              intro b563 m563 o563
              refine StillVC.run (StillVC.buildK st43 ?_)
              refine And.intro rfl ?_
              refine And.intro rfl ?_
              refine StillVC.run (StillVC.loadON o563 4 rfl ty43 rfl rfl rfl ?_)
              refine StillVC.run (StillVC.loadON o563 5 rfl ty43 rfl rfl rfl ?_)
              (refine RunVC.litN o563 sl41 ty43 rfl rfl (by decide) ?_)
              refine And.intro rfl ?_
              refine And.intro rfl ?_
              intro b568 m568 o568
              refine StillVC.run (StillVC.buildK st43 ?_)
              refine And.intro rfl ?_
              refine And.intro rfl ?_
              refine StillVC.run (StillVC.loadON o568 4 rfl ty43 rfl rfl rfl ?_)
              refine StillVC.run (StillVC.loadON o568 5 rfl ty43 rfl rfl rfl ?_)
              (refine RunVC.litN o568 sl41 ty43 rfl rfl (by decide) ?_)
              refine And.intro rfl ?_
              refine And.intro rfl ?_
              intro b573 m573 o573
              refine StillVC.run (StillVC.buildK st43 ?_)
              refine And.intro rfl ?_
              refine And.intro rfl ?_
              refine StillVC.run (StillVC.loadON o573 4 rfl ty43 rfl rfl rfl ?_)
              (refine RunVC.litN o573 sl41 ty43 rfl rfl (by decide) ?_)
              refine And.intro rfl ?_
              intro b577 m577 o577
              refine StillVC.run (StillVC.buildK st43 ?_)
              refine And.intro rfl ?_
              refine And.intro rfl ?_
              refine And.intro rfl ?_
              refine And.intro rfl ?_
              refine StillVC.run (StillVC.loadON o577 4 rfl ty43 rfl rfl rfl ?_)
              (refine RunVC.litN o577 sl41 ty43 rfl rfl (by decide) ?_)
              refine And.intro rfl ?_
              intro b581 m581 o581
              (refine RunVC.lit o581 sl36 ty9 rfl rfl (by decide) (And.intro rfl ?_); intro b582 m582 o582)
              refine StillVC.run (StillVC.buildK st43 ?_)
              refine And.intro rfl ?_
              refine And.intro rfl ?_
              refine And.intro rfl ?_
              refine And.intro rfl ?_
              refine And.intro rfl ?_
              refine And.intro rfl ?_
              (refine RunVC.litN o582 sl41 ty43 rfl rfl (by decide) ?_)
              refine And.intro rfl ?_
              refine And.intro rfl ?_
              refine And.intro rfl ?_
              refine And.intro rfl ?_
              refine And.intro rfl ?_
              refine And.intro rfl ?_
              refine And.intro rfl ?_
              intro b585 m585 o585
              obtain ⟨W, oA, hs⟩ := Own.allK o585 [18, 8, 9, 10, 11, 12, 13, 14, 15, 16, 17, 0, 2] 7 rfl rfl
              obtain ⟨ds, e1, e2⟩ := opsW_reads (b1 := b550) (b2 := b553) (b3 := b557) (b4 := b558) (b5 := b563) (b6 := b568) (b7 := b573) (b8 := b577) (b9 := b581) (b10 := b582)
                (exR.mono (hs 11 _ rfl) _ _ rx) (exR.mono (hs 12 _ rfl) _ _ ry) rfl rfl
                ((box_reads rfl (by decide)).mono (hs 1 _ rfl)) ((box_reads rfl (by decide)).mono (hs 2 _ rfl)) ((box_reads rfl (by decide)).mono (hs 3 _ rfl)) ((box_reads rfl (by decide)).mono (hs 4 _ rfl))
                ((box_reads rfl (by decide)).mono (hs 5 _ rfl)) ((box_reads rfl (by decide)).mono (hs 6 _ rfl)) ((box_reads rfl (by decide)).mono (hs 7 _ rfl)) ((box_reads rfl (by decide)).mono (hs 8 _ rfl))
                ((box_reads rfl (by decide)).mono (hs 9 _ rfl)) ((box_reads rfl (by decide)).mono (hs 10 _ rfl))
              have key : ∃ (W : Item) (tt : TypeId), Own ⟨h, []⟩ [W, box b547 (strs (opsX s t)) tt] m585 ∧ Reads W 9 (.slice (some ⟨b585, 0, none⟩) 7 7) 7 (ds.flatMap Subtype.val) ∧ ∀ (i : Nat) (w : Ex), (opsW x.expr y.expr)[i]? = some w → ∃ d : Cells9, ds[i]? = some d ∧ exR W d.1 w :=
                ⟨W, _, oA, by rw [e1]; exact (box_reads rfl (by decide)).mono (hs 0 _ rfl), e2⟩
              clear hs oA
              obtain ⟨W, tt, oW, hWr, hWx⟩ := key
              have hq1 : OneQ s x.expr := ⟨hs2, by omega, u, z, t1, q1, q3, q4⟩
              have hq2 : OneQ t y.expr := ⟨ht2, by omega, u2, z2, t2, g1, g3, g4⟩
              clear e1 e2 o550 o553 o557 o558 o563 o568 o573 o577 o581 o582 o585 o525 o526 o547 oc rx ry w1 w2
              refine LoopVC.intro [4, 17, 18, 19, 20, 149, 150, 151, 152, 153, 154, 155, 156, 157, 158, 159, 160, 161, 162, 163, 164, 165, 166, 167, 168, 169, 170, 171, 172, 173, 174, 175, 176, 177, 178, 179, 180, 181, 182, 183, 184, 185, 186] [17] (fun vs hh => ∃ (i : Nat), i ≤ 7 ∧ vs = [.int .i64 i] ∧ Own ⟨h, []⟩ [W, box b547 (strs (opsX s t)) tt] hh) (fun vs _ => match vs with | [.int _ i] => 7 - i.toNat | _ => 0) ?_ ?_
              · exact ⟨0, by omega, rfl, oW⟩
              · rintro vs junk hh ⟨i, hi, rfl, oh⟩
                by_cases hlt : i < 7
                · obtain ⟨txt, wx, it, hx1, hx2, hx3, hx4, hx5⟩ := ops_plain hq1 hq2 i hlt
                  obtain ⟨d, hd1, hd2⟩ := hWx i wx hx2
                  have hss : (strs (opsX s t))[i]? = some (.string ⟨⟨txt⟩⟩) := by simp [strs, hx1]
                  have htl : txt.length ≤ 20000 := by simp at hx3; omega
                  have hsl : (strs (opsX s t)).length = 7 := rfl
                  refine StillVC.run (StillVC.lenV rfl sl36 ?_)
                  refine Br.dec (fun c601 => ?_) (fun hc => absurd (by omega) hc)
                  refine StillVC.run (StillVC.idxB oh 1 rfl sl36 ty9 rfl rfl (by omega) (by first | omega | (simp; omega)) ?_)
                  refine StillVC.run (StillVC.loadO oh 1 rfl ty9 rfl (by assumption) ?_)
                  refine StillVC.run (StillVC.strAdd rfl rfl (by first | omega | (simp; omega)) ?_)
                  refine StillVC.run (StillVC.strAdd rfl rfl (by first | omega | (simp; omega)) ?_)
                  refine CallVC.ret (parse_cases hx3 _ (hW.ext (Own.ext oh))) ?_
                  rintro _ h6 (⟨e6, k6, hM6, _, _, _⟩ | ⟨zs6, ts6, ua6, uc6, I6, hM6, hL6, hI6, hlen6, rfl, hp6, oc6⟩)
                  · rw [hx4] at hM6
                    cases hM6
                  · rw [hx4] at hM6
                    injection hM6 with hM6
                    subst hM6
                    have o6 := Own.call oh oc6
                    simp only [List.cons_append, List.nil_append] at o6
                    clear oc6
                    have hB6 := (hI6.bound (N := 9999) (by decide) (by have := (lexM_props.2 ts6 hL6).1; omega) it (by simp)).expr
                    obtain ⟨c6, rp6, ri6⟩ := progR_one hp6
                    obtain ⟨vc6, vn6, vt6, vf6, vv6, vd6, e60, e61, e62, e63, e64, e65, e66, e67, e68, rfl, _, _, _, _, _, _, rx6⟩ := ri6
                    obtain ⟨zk, zt, za1, zn1, zb1, za2, zn2, zb2, za3, zn3, zb3, za, zs', zg, zo, ez⟩ := exR_nine rx6 (Own.satK o6 2 rfl)
                    simp only [List.cons.injEq, and_true] at ez
                    obtain ⟨rfl, rfl, rfl, rfl, rfl, rfl, rfl, rfl, rfl⟩ := ez
                    have w6 := rp6 _ (Own.satK o6 2 rfl)
                    unfold itC at w6
                    have wW := hWr _ (Own.satK o6 0 rfl)
                    (refine RunVC.alloc o6 ty25 ?_; intro b610 m610 o610)
                    (refine RunVC.storeL o610 3 rfl ty25 rfl (by decide) (And.intro ⟨rfl, rfl⟩ ?_); intro m611 o611)
                    refine DrawVC.intro [0, 1, 2, 3, 5, 6, 7, 8, 9, 11, 12, 14, 15, 16, 19, 20] [4, 10, 13, 17] [18] [0, 1, 2, 3, 4, 5, 6, 7, 8, 9, 10, 11, 12, 13, 14, 15, 16, 17, 18, 19, 20] mixed (by kernel_rfl) rfl (fun _ _ _ _ h => h) ?_
                    refine Br.ff ?_
                    refine StillVC.fieldAddr st25 rfl rfl rfl ?_
                    refine StillVC.loadO o611 3 rfl ty23 rfl rfl ?_
                    refine StillVC.lenV rfl sl23 ?_
                    refine Br.ndec (fun hc => absurd (by first | omega | assumption | decide | exact rfl) hc) (fun c615 => ?_)
                    refine StillVC.fieldAddr st25 rfl rfl rfl ?_
                    refine StillVC.loadO o611 3 rfl ty23 rfl rfl ?_
                    refine StillVC.idxN sl23 ty45 (o611.reads 2 rp6 rfl) rfl (by omega) (by omega) ?_
                    refine StillVC.fieldAdr (o611.reads 2 rp6 rfl) (by omega) st45 rfl rfl rfl ?_
                    refine StillVC.loadAN (o611.reads 2 rp6 rfl) ty43 rfl rfl rfl (by decide) ?_
                    refine StillVC.idxN sl41 ty43 (o611.reads 0 hWr rfl) rfl (by omega) (by omega) ?_
                    refine StillVC.loadFT ty43 (hWr _ (Own.satK o611 0 rfl)) (fun y : Cells9 => y.2) (by decide) rfl (by assumption) ?_
                    refine CallVC.ret (sameExpr_spec QA false (fun h => by cases h) I6 W (exDep it.expr) it.expr wx _ _ _ (Nat.le_refl _) hB6 hx5 rx6 hd2 (Own.satE o611 2 rfl) (Own.satE o611 0 rfl)) ?_
                    rintro _ h7 ⟨rfl, oc7⟩
                    have o7 := oc7.thenE o611
                    refine Br.ff ?_
                    refine Ar.i64 (by omega) (by omega) ?_
                    refine ⟨rfl, ?_⟩
                    exact ⟨⟨i + 1, by omega, rfl, Own.sel (by assumption) [0, 1] rfl⟩, by simp; omega⟩
                · refine StillVC.run (StillVC.lenV rfl sl36 ?_)
                  refine Br.dec (fun hc => absurd hc (by omega)) (fun c901 => ?_)
                  refine RetVC.one rfl ?_
                  exact ⟨rfl, Own.sel oh [] rfl⟩
        · (refine RunVC.alloc o3 ty25 ?_; intro b340 m340 o340)
          (refine RunVC.storeL o340 3 rfl ty25 rfl (by decide) (And.intro ⟨rfl, rfl⟩ ?_); intro m341 o341)
          refine Br.ff ?_
          refine Br.ff ?_
          refine StillVC.run (StillVC.fieldAddr st25 rfl rfl rfl ?_)
          refine StillVC.run (StillVC.loadO o341 1 rfl ty23 rfl rfl ?_)
          refine StillVC.run (StillVC.lenV rfl sl23 ?_)
          refine Br.ndec (fun hc => absurd (by first | omega | assumption | decide | exact rfl) hc) (fun c345 => ?_)
          refine StillVC.run (StillVC.fieldAddr st25 rfl rfl rfl ?_)
          refine StillVC.run (StillVC.loadO o341 3 rfl ty23 rfl rfl ?_)
          refine StillVC.run (StillVC.lenV rfl sl23 ?_)
          refine Br.ndec (fun c349 => ?_) (fun hc => absurd hc (by first | omega | assumption | decide | exact rfl))
          refine RetVC.one rfl ?_
          exact ⟨rfl, Own.sel (by assumption) [] rfl⟩
      · (refine RunVC.alloc o3 ty25 ?_; intro b360 m360 o360)
        (refine RunVC.storeL o360 3 rfl ty25 rfl (by decide) (And.intro ⟨rfl, rfl⟩ ?_); intro m361 o361)
        refine Br.ff ?_
        refine Br.ff ?_
        refine StillVC.run (StillVC.fieldAddr st25 rfl rfl rfl ?_)
        refine StillVC.run (StillVC.loadO o361 1 rfl ty23 rfl rfl ?_)
        refine StillVC.run (StillVC.lenV rfl sl23 ?_)
        refine Br.ndec (fun c365 => ?_) (fun hc => absurd hc (by first | omega | assumption | decide | exact rfl))
        refine Br.tt ?_
        refine RetVC.one rfl ?_
        exact ⟨rfl, Own.sel (by assumption) [] rfl⟩

end Go.Proofs.YtnmfanjhepepbaaDoor
