/-
  Tokens that are written with a blank behind each, and read again. Tokens that the statements write: spelled, joined; what the parser makes of them. The walk of ParserTokens.
-/
import Derived.Test.YtnmfanjhepepbaaGreatDoorStructs
import Derived.Test.YtnmfanjhepepbaaGreatDoorMPl
import Derived.Test.YtnmfanjhepepbaaGreatDoorMJo
set_option linter.all false
/- Tokens that are written with a blank behind each, and read again. -/
namespace Go.Proofs.YtnmfanjhepepbaaGreatDoor
open Go

def spc (c : UInt8) : Bool := decide (c = 34 ∨ c = 92 ∨ c = 10)
def esc1 (c : UInt8) : List UInt8 := if c = 34 then [92, 34] else if c = 92 then [92, 92] else if c = 10 then [92, 110] else [c]
def escS (s : List UInt8) : List UInt8 := s.flatMap esc1
def nS (s : List UInt8) : Nat := s.countP spc

theorem esc1_len (c : UInt8) : (esc1 c).length = 1 + (if spc c = true then 1 else 0) := by
  unfold esc1 spc
  by_cases h1 : c = 34
  · rw [if_pos h1, if_pos (by simp [h1])]; rfl
  · by_cases h2 : c = 92
    · rw [if_neg h1, if_pos h2, if_pos (by simp [h2])]; rfl
    · by_cases h3 : c = 10
      · rw [if_neg h1, if_neg h2, if_pos h3, if_pos (by simp [h3])]; rfl
      · rw [if_neg h1, if_neg h2, if_neg h3, if_neg (by simp [h1, h2, h3])]; rfl

theorem esc1_other {c : UInt8} (h : spc c = false) : esc1 c = [c] := by
  unfold spc at h
  have := of_decide_eq_false h
  unfold esc1
  rw [if_neg (fun e => this (.inl e)), if_neg (fun e => this (.inr (.inl e))), if_neg (fun e => this (.inr (.inr e)))]

theorem escS_len : ∀ (s : List UInt8), (escS s).length = s.length + nS s
  | [] => rfl
  | c :: s => by
    have ih := escS_len s
    unfold escS nS at ih ⊢
    rw [List.flatMap_cons, List.length_append, ih, esc1_len, List.countP_cons]
    simp
    omega

theorem escS_take {s : List UInt8} {i : Nat} {c : UInt8} (h : s[i]? = some c) : escS (s.take (i + 1)) = escS (s.take i) ++ esc1 c := by
  unfold escS
  rw [List.take_add_one, h, List.flatMap_append]
  simp

theorem escS_take_le (s : List UInt8) (i : Nat) : (escS (s.take i)).length ≤ (escS s).length := by
  conv => rhs; rw [← List.take_append_drop i s]
  unfold escS
  rw [List.flatMap_append, List.length_append]
  omega

theorem escS_le (s : List UInt8) : (escS s).length ≤ 2 * s.length := by
  have h1 := escS_len s
  have h2 : nS s ≤ s.length := List.countP_le_length
  omega

/- A TEXT IN QUOTES, READ AGAIN -/
theorem quoF_34 (w acc : List UInt8) (m : Nat) : quoF (34 :: w) acc m = if 200 < acc.length then .err 3 else .tok 3 acc 0 (m + 2) := by
  cases w with
  | nil => rw [quoF, if_pos (by decide)]
  | cons d r => rw [quoF, if_pos (by decide)]

theorem quoF_escS : ∀ (s w acc : List UInt8) (m : Nat), acc.length + s.length ≤ 200 → quoF (escS s ++ 34 :: w) acc m = .tok 3 (acc ++ s) 0 (m + (escS s).length + 2)
  | [], w, acc, m, h => by
    show quoF (34 :: w) acc m = _
    rw [quoF_34, if_neg (by simp at h; omega)]
    simp [escS]
  | c :: s, w, acc, m, h => by
    have e : escS (c :: s) = esc1 c ++ escS s := by simp [escS]
    have hh : (acc ++ [c]).length + s.length ≤ 200 := by simp at h ⊢; omega
    rw [e]
    unfold esc1
    by_cases h34 : c = 34
    · subst h34
      rw [if_pos rfl]
      show quoF (92 :: 34 :: (escS s ++ 34 :: w)) acc m = _
      rw [quoF, if_neg (by decide), if_neg (by decide), if_pos (by decide), show escB 34 = some 34 from rfl]
      simp only
      rw [quoF_escS s w _ _ hh]
      simp; omega
    · rw [if_neg h34]
      by_cases h92 : c = 92
      · subst h92
        rw [if_pos rfl]
        show quoF (92 :: 92 :: (escS s ++ 34 :: w)) acc m = _
        rw [quoF, if_neg (by decide), if_neg (by decide), if_pos (by decide), show escB 92 = some 92 from rfl]
        simp only
        rw [quoF_escS s w _ _ hh]
        simp; omega
      · rw [if_neg h92]
        by_cases h10 : c = 10
        · subst h10
          rw [if_pos rfl]
          show quoF (92 :: 110 :: (escS s ++ 34 :: w)) acc m = _
          rw [quoF, if_neg (by decide), if_neg (by decide), if_pos (by decide), show escB 110 = some 10 from rfl]
          simp only
          rw [quoF_escS s w _ _ hh]
          simp; omega
        · rw [if_neg h10]
          have toN : ∀ {a b : UInt8}, a ≠ b → a.toNat ≠ b.toNat := fun h e => h (UInt8.toNat_inj.1 e)
          have n34 : c.toNat ≠ 34 := toN h34
          have n10 : c.toNat ≠ 10 := toN h10
          have n92 : c.toNat ≠ 92 := toN h92
          have ih := quoF_escS s w (acc ++ [c]) (m + 1) hh
          have step : quoF (c :: (escS s ++ 34 :: w)) acc m = quoF (escS s ++ 34 :: w) (acc ++ [c]) (m + 1) := by
            cases hr : escS s ++ 34 :: w with
            | nil => simp at hr
            | cons d r => rw [quoF, if_neg n34, if_neg n10, if_neg n92]
          show quoF (c :: (escS s ++ 34 :: w)) acc m = _
          rw [step, ih]
          simp; omega

theorem readR_escS (s w : List UInt8) (h : s.length ≤ 200) : readR (34 :: (escS s ++ 34 :: w)) = .tok 3 s 0 ((escS s).length + 2) := by
  rw [readR_quote (by decide) (by decide) (by decide), quoF_escS s w [] 0 (by simpa using h)]
  simp

/-- What a text in quotes takes in the text, and how long it is. -/
theorem quoF_esc_len : ∀ (l acc : List UInt8) (m : Nat) {k n : Int} {x : List UInt8} {len : Nat}, quoF l acc m = .tok k x n len → (escS acc).length = m → (escS x).length + 2 = len ∧ x.length ≤ 200
  | [], _, _, _, _, _, _, h, _ => by cases h
  | [c], acc, m, _, _, _, _, h, he => by
    rw [quoF] at h
    split at h
    · split at h <;> cases h
      exact ⟨by omega, by omega⟩
    · split at h <;> cases h
  | c :: d :: r, acc, m, _, _, _, _, h, he => by
    rw [quoF] at h
    split at h
    · split at h <;> cases h
      exact ⟨by omega, by omega⟩
    · rename_i h34
      split at h
      · cases h
      · rename_i h10
        split at h
        · split at h
          · cases h
          · rename_i y hy
            refine quoF_esc_len r _ _ h ?_
            have : spc y = true := by
              unfold escB at hy
              split at hy
              · cases hy; rfl
              · split at hy
                · cases hy; rfl
                · split at hy <;> cases hy
                  rfl
            have h2 := esc1_len y
            rw [this] at h2
            have e : escS (acc ++ [y]) = escS acc ++ esc1 y := by simp [escS]
            rw [e, List.length_append, he, h2]
            rfl
        · rename_i h92
          refine quoF_esc_len (d :: r) _ _ h ?_
          have hs : spc c = false := by
            unfold spc
            refine decide_eq_false ?_
            rintro (rfl | rfl | rfl)
            · exact h34 rfl
            · exact h92 rfl
            · exact h10 rfl
          have e : escS (acc ++ [c]) = escS acc ++ esc1 c := by simp [escS]
          rw [e, List.length_append, he, esc1_other hs]
          rfl

/- TOKENS THAT ARE WRITTEN -/
def wr (x : Tok) : List UInt8 := if x.kind = 3 then [34] ++ escS x.text ++ [34] else x.text
def wrs (ts : List Tok) : List UInt8 := ts.flatMap fun x => wr x ++ [32]

structure Good (x : Tok) : Prop where
  read : ∀ rest, readR (wr x ++ 32 :: rest) = .tok x.kind x.text x.num (wr x).length
  short : x.kind = 3 → x.text.length ≤ 200

theorem good_of {l : List UInt8} {k n : Int} {x : List UInt8} {len i : Nat} (h : readR l = .tok k x n len) : Good ⟨k, x, n, i⟩ ∧ (wr ⟨k, x, n, i⟩).length = len := by
  obtain ⟨h1, h2⟩ := readR_len h
  by_cases hk : k = 3
  · subst hk
    cases l with
    | nil => cases h
    | cons c r =>
      have key : c.toNat = 34 ∧ quoF r [] 0 = .tok 3 x n len := by
        cases hlet : letterB c with
        | true =>
          rw [readR_letter hlet] at h
          split at h <;> cases h
        | false =>
          cases hdig : digitB c with
          | true =>
            rw [readR_digit hlet hdig] at h
            split at h <;> cases h
          | false =>
            by_cases h34 : c.toNat = 34
            · rw [readR_quote hlet hdig h34] at h
              exact ⟨h34, h⟩
            · rw [readR_symbol hlet hdig h34] at h
              split at h <;> cases h
      obtain ⟨q1, q2⟩ := quoF_esc_len _ _ _ key.2 rfl
      obtain ⟨_, rfl⟩ := quoF_tok _ _ _ key.2
      have hw : wr ⟨3, x, 0, i⟩ = 34 :: (escS x ++ [34]) := rfl
      have hwl : (wr ⟨3, x, 0, i⟩).length = (escS x).length + 2 := by rw [hw]; simp
      refine ⟨⟨fun rest => ?_, fun _ => q2⟩, by rw [hwl]; exact q1⟩
      rw [hwl, hw]
      have := readR_escS x (32 :: rest) q2
      simpa using this
  · have hx := readR_text h hk
    have hw : wr ⟨k, x, n, i⟩ = x := if_neg hk
    have hxl : x.length = len := by rw [hx, List.length_take]; omega
    refine ⟨⟨fun rest => ?_, fun e => absurd e hk⟩, by rw [hw]; exact hxl⟩
    rw [hw, hxl]
    refine readR_cong h ?_ ?_
    · rw [List.take_append_of_le_length (by omega), List.take_of_length_le (by omega)]
      exact hx
    · intro c hc
      rw [List.getElem?_append_right (by omega), show len - x.length = 0 by omega] at hc
      exact .inr (blank_ok rest c hc)

theorem LexG.good : ∀ (n : Nat) (l : List UInt8) (i : Nat) (ts : List Tok), l.length ≤ n → LexG l i (.ok ts) → (∀ x ∈ ts, Good x) ∧ (wrs ts).length ≤ l.length + ts.length ∧ (∀ x ∈ ts, x.text.length ≤ l.length) := by
  intro n
  induction n with
  | zero =>
    intro l i ts hn h
    obtain rfl : l = [] := List.eq_nil_of_length_eq_zero (by omega)
    rcases h.inv_ok with ⟨rfl, _⟩ | ⟨_, _, _, _, _, _, hlt, _⟩
    · simp [wrs]
    · simp at hlt
  | succ n ih =>
    intro l i ts hn h
    rcases h.inv_ok with ⟨rfl, _⟩ | ⟨k, x, m, len, us, hR, hlt, rfl, hrest⟩
    · simp [wrs]
    · obtain ⟨h1, h2⟩ := readR_len hR
      rw [List.length_drop] at h2
      obtain ⟨g1, g2⟩ := good_of (i := i + gapF false l) hR
      obtain ⟨i1, i2, i3⟩ := ih (l.drop (gapF false l + len)) (i + gapF false l + len) us (by rw [List.length_drop]; omega) hrest
      rw [List.length_drop] at i2
      refine ⟨fun y hy => ?_, ?_, fun y hy => ?_⟩
      · rcases List.mem_cons.1 hy with rfl | hy
        · exact g1
        · exact i1 y hy
      · have e : wrs (⟨k, x, m, i + gapF false l⟩ :: us) = wr ⟨k, x, m, i + gapF false l⟩ ++ [32] ++ wrs us := by simp [wrs]
        rw [e]
        simp only [List.length_append, List.length_cons, List.length_nil, g2]
        omega
      · rcases List.mem_cons.1 hy with rfl | hy
        · show x.length ≤ l.length
          by_cases hk : k = 3
          · have hw : (wr ⟨k, x, m, i + gapF false l⟩).length = (escS x).length + 2 := by
              unfold wr; rw [if_pos hk]; simp
            have hx2 : x.length ≤ (escS x).length := by rw [escS_len]; omega
            omega
          · rw [readR_text hR hk, List.length_take, List.length_drop]; omega
        · have := i3 y hy
          rw [List.length_drop] at this
          omega

theorem LexG.blank {l : List UInt8} {i : Nat} {r : Except (Int × Nat) (List Tok)} (h : LexG l (i + 1) r) : LexG (32 :: l) i r := by
  unfold LexG at h ⊢
  rw [gapF_blank, Nat.add_comm 1, List.drop_succ_cons]
  rwa [show i + 1 + gapF false l = i + (gapF false l + 1) by omega] at h

theorem LexG.first {l : List UInt8} {i : Nat} {k n : Int} {x : List UInt8} {len : Nat} {r : Except (Int × Nat) (List Tok)} (hR : readR l = .tok k x n len) (hr : LexG (l.drop len) (i + len) r) : LexG l i (consE ⟨k, x, n, i⟩ r) := by
  have h0 := tok_gap hR
  obtain ⟨h1, h2⟩ := readR_len hR
  have st := LexG.step (l := l) (i := i) (by rw [h0]; omega) (by rw [h0, List.drop_zero]; exact hR) (by rw [h0, Nat.zero_add, Nat.add_zero]; exact hr)
  rw [h0] at st
  exact st

/-- The tokens of what is written. -/
def wrsT : List Tok → Nat → List Tok
  | [], _ => []
  | x :: ts, i => ⟨x.kind, x.text, x.num, i⟩ :: wrsT ts (i + (wr x).length + 1)

theorem wrs_lexT : ∀ (ts : List Tok) (i : Nat), (∀ x ∈ ts, Good x) → LexG (wrs ts) i (.ok (wrsT ts i))
  | [], i, _ => LexG.all rfl i
  | x :: ts, i, h => by
    have hx := h x (by simp)
    have hus := wrs_lexT ts (i + (wr x).length + 1) (fun y hy => h y (by simp [hy]))
    have e : wrs (x :: ts) = wr x ++ 32 :: wrs ts := by simp [wrs]
    rw [e]
    have := LexG.first (hx.read (wrs ts)) (i := i) (r := .ok (wrsT ts (i + (wr x).length + 1))) (by rw [List.drop_left]; exact LexG.blank hus)
    exact this

theorem wrsT_te : ∀ (ts : List Tok) (i : Nat), TE (fun _ _ => True) ts (wrsT ts i)
  | [], _ => .nil
  | _ :: ts, i => .cons ⟨rfl, rfl, rfl, trivial⟩ (wrsT_te ts _)

theorem wrsT_get : ∀ (ts : List Tok) (i k : Nat) {t : Tok}, (wrsT ts i)[k]? = some t → t.off = i + (wrs (ts.take k)).length
  | [], _, _, _, h => by simp [wrsT] at h
  | x :: ts, i, 0, t, h => by simp [wrsT] at h; subst h; simp [wrs]
  | x :: ts, i, k + 1, t, h => by
    have := wrsT_get ts (i + (wr x).length + 1) k (by simpa [wrsT] using h)
    rw [this]
    simp [wrs]
    omega

theorem wrsT_len (ts : List Tok) (i : Nat) : (wrsT ts i).length = ts.length := (wrsT_te ts i).len.symm

theorem wrs_take {ts : List Tok} {i : Nat} {x : Tok} (h : ts[i]? = some x) : wrs (ts.take (i + 1)) = wrs (ts.take i) ++ (wr x ++ [32]) := by
  unfold wrs
  rw [List.take_add_one, h, List.flatMap_append]
  simp

theorem wrs_le : ∀ (ts : List Tok) (m : Nat), (∀ x ∈ ts, x.text.length ≤ m) → (wrs ts).length ≤ ts.length * (2 * m + 3)
  | [], _, _ => by simp [wrs]
  | x :: ts, m, h => by
    have ih := wrs_le ts m (fun y hy => h y (by simp [hy]))
    have hx := h x (by simp)
    have hw : (wr x).length ≤ 2 * m + 2 := by
      unfold wr
      split
      · have := escS_le x.text
        simp only [List.length_append, List.length_cons, List.length_nil]
        omega
      · omega
    have e : wrs (x :: ts) = wr x ++ [32] ++ wrs ts := by simp [wrs]
    rw [e, List.length_cons, Nat.add_mul, Nat.one_mul]
    simp only [List.length_append, List.length_cons, List.length_nil]
    omega

theorem wrs_take_le (ts : List Tok) (i : Nat) : (wrs (ts.take i)).length ≤ (wrs ts).length := by
  conv => rhs; rw [← List.take_append_drop i ts]
  unfold wrs
  rw [List.flatMap_append, List.length_append]
  omega


end Go.Proofs.YtnmfanjhepepbaaGreatDoor

/- Tokens that the statements write: spelled, joined; what the parser makes of them. -/
namespace Go.Proofs.YtnmfanjhepepbaaGreatDoor
open Go

theorem esc_at {c : UInt8} : (c.toNat = 34 ∨ c.toNat = 92 → esc1 c = [92, c]) ∧ (c.toNat = 10 → esc1 c = [92, 110]) ∧ (c.toNat ≠ 34 → c.toNat ≠ 92 → c.toNat ≠ 10 → esc1 c = [c]) := by
  have eq : ∀ {n : UInt8}, c.toNat = n.toNat → c = n := fun h => UInt8.toNat_inj.1 h
  refine ⟨?_, ?_, ?_⟩
  · rintro (h | h)
    · obtain rfl := eq (n := 34) h; rfl
    · obtain rfl := eq (n := 92) h; rfl
  · intro h
    obtain rfl := eq (n := 10) h; rfl
  · intro h1 h2 h3
    unfold esc1
    rw [if_neg (fun e => h1 (by rw [e]; rfl)), if_neg (fun e => h2 (by rw [e]; rfl)), if_neg (fun e => h3 (by rw [e]; rfl))]

set_option maxHeartbeats 4000000 in
set_option maxRecDepth 100000 in
theorem spelled_spec (x : Tok) (h : Heap) (hl : x.text.length ≤ 100000) : SpecR Tryz.prog 27 [.agg ⟨tokC x⟩] h fun r h' => r = .string ⟨⟨wr x⟩⟩ ∧ Own h [] h' := by
  obtain ⟨k, s, n, o⟩ := x
  unfold wr tokC
  dsimp only
  dsimp only at hl
  refine Spec.enter Tryz.func27 rfl Tryz.ntmps27 (by kernel_rfl) ?_
  have o0 := Own.refl h
  by_cases hk : k = 3
  · rw [if_pos hk]
    (refine RunVC.boxO o0 rfl ?_; intro b10 m10 o10)
    refine StillVC.run (StillVC.fieldAddr st38 rfl rfl rfl ?_)
    refine StillVC.run (StillVC.loadO o10 0 rfl ty3 rfl rfl ?_)
    refine Br.ndec (fun hc => absurd (by first | omega | assumption | decide | exact rfl) hc) (fun c13 => ?_)
    refine LoopVC.intro [3, 4, 10, 11, 12, 13, 14, 15, 16, 17, 18, 19, 20, 21, 22, 23, 24, 25, 26, 27, 28, 29, 30, 31, 32, 33, 34, 35, 36, 37, 38, 39, 40, 41, 42, 43, 44] [3, 4] (fun vs hh => ∃ (i : Nat), i ≤ s.length ∧ vs = [.string ⟨⟨[34] ++ escS (s.take i)⟩⟩, .int .i64 i] ∧ Own h [box b10 [.int .i64 k, .string ⟨⟨s⟩⟩, .int .i64 n, .int .i64 o] 38] hh) (fun vs _ => match vs with | [_, .int _ i] => s.length - i.toNat | _ => 0) ?_ ?_
    · exact ⟨0, by omega, rfl, by assumption⟩
    · rintro vs junk hh ⟨i, hi, rfl, oh⟩
      have hle := escS_take_le s i
      have hle2 := escS_le s
      by_cases hlt : i < s.length
      · obtain ⟨c, hc⟩ := getx hlt
        have hse : (s.drop i).take 1 = [c] := by
          rw [List.take_one, List.head?_drop, hc]; rfl
        have hst := escS_take hc
        obtain ⟨e1, e2, e3⟩ := esc_at (c := c)
        have hsl : List.drop (i : Int).toNat (List.take ((i : Int) + 1).toNat s) = [c] := (slice_at s i 1).trans hse
        refine StillVC.run (StillVC.fieldAddr st38 rfl rfl rfl ?_)
        refine StillVC.run (StillVC.loadO oh 0 rfl ty9 rfl rfl ?_)
        refine StillVC.run (StillVC.lenS rfl str9 ?_)
        refine Br.dec (fun c23 => ?_) (fun hc => absurd (by omega) hc)
        refine StillVC.run (StillVC.fieldAddr st38 rfl rfl rfl ?_)
        refine StillVC.run (StillVC.loadO oh 0 rfl ty9 rfl rfl ?_)
        refine StillVC.run (StillVC.strIdx rfl rfl str9 (by omega) (by assumption) ?_)
        refine Br.dec (fun c27 => ?_) (fun c27 => ?_)
        refine Br.dec (fun c28 => ?_) (fun hc => absurd (by omega) hc)
        refine StillVC.run (StillVC.fieldAddr st38 rfl rfl rfl ?_)
        refine StillVC.run (StillVC.loadO oh 0 rfl ty9 rfl rfl ?_)
        refine Ar.i64 (by omega) (by omega) ?_
        refine StillVC.run (StillVC.sliceS str9 rfl ⟨_, rfl⟩ ⟨_, rfl⟩ (by omega) (by omega) (by omega) ?_)
        refine StillVC.run (StillVC.strAdd rfl rfl (by first | omega | (simp; omega)) ?_)
        refine StillVC.run (StillVC.strAdd rfl rfl (by first | omega | (simp; omega)) ?_)
        refine Ar.i64 (by omega) (by omega) ?_
        refine ⟨rfl, ?_⟩
        rotate_left
        refine Br.dec (fun c34 => ?_) (fun c34 => ?_)
        refine StillVC.run (StillVC.fieldAddr st38 rfl rfl rfl ?_)
        refine StillVC.run (StillVC.loadO oh 0 rfl ty9 rfl rfl ?_)
        refine Ar.i64 (by omega) (by omega) ?_
        refine StillVC.run (StillVC.sliceS str9 rfl ⟨_, rfl⟩ ⟨_, rfl⟩ (by omega) (by omega) (by omega) ?_)
        refine StillVC.run (StillVC.strAdd rfl rfl (by first | omega | (simp; omega)) ?_)
        refine StillVC.run (StillVC.strAdd rfl rfl (by first | omega | (simp; omega)) ?_)
        refine Ar.i64 (by omega) (by omega) ?_
        refine ⟨rfl, ?_⟩
        rotate_left
        refine Br.dec (fun c40 => ?_) (fun c40 => ?_)
        refine StillVC.run (StillVC.strAdd rfl rfl (by first | omega | (simp; omega)) ?_)
        refine Ar.i64 (by omega) (by omega) ?_
        refine ⟨rfl, ?_⟩
        rotate_left
        refine StillVC.run (StillVC.fieldAddr st38 rfl rfl rfl ?_)
        refine StillVC.run (StillVC.loadO oh 0 rfl ty9 rfl rfl ?_)
        refine Ar.i64 (by omega) (by omega) ?_
        refine StillVC.run (StillVC.sliceS str9 rfl ⟨_, rfl⟩ ⟨_, rfl⟩ (by omega) (by omega) (by omega) ?_)
        refine StillVC.run (StillVC.strAdd rfl rfl (by first | omega | (simp; omega)) ?_)
        refine Ar.i64 (by omega) (by omega) ?_
        refine ⟨rfl, ?_⟩
        · refine ⟨⟨i + 1, by omega, by rw [hsl, hst, e3 (by omega) (by omega) (by omega)]; simp, oh⟩, by simp; omega⟩
        · refine ⟨⟨i + 1, by omega, by rw [hsl, hst, e1 (.inl (by omega))]; simp, oh⟩, by simp; omega⟩
        · refine ⟨⟨i + 1, by omega, by rw [hsl, hst, e1 (.inr (by omega))]; simp, oh⟩, by simp; omega⟩
        · refine ⟨⟨i + 1, by omega, by rw [hst, e2 (by omega)]; simp, oh⟩, by simp; omega⟩
      · have e : s.take i = s := List.take_of_length_le (by omega)
        rw [e]
        refine StillVC.run (StillVC.fieldAddr st38 rfl rfl rfl ?_)
        refine StillVC.run (StillVC.loadO oh 0 rfl ty9 rfl rfl ?_)
        refine StillVC.run (StillVC.lenS rfl str9 ?_)
        refine Br.dec (fun hc => absurd hc (by omega)) (fun c83 => ?_)
        refine StillVC.run (StillVC.strAdd rfl rfl (by first | omega | (simp; omega)) ?_)
        refine RetVC.one rfl ?_
        exact ⟨by simp, Own.sel (by assumption) [] rfl⟩
  · rw [if_neg hk]
    (refine RunVC.boxO o0 rfl ?_; intro b90 m90 o90)
    refine StillVC.run (StillVC.fieldAddr st38 rfl rfl rfl ?_)
    refine StillVC.run (StillVC.loadO o90 0 rfl ty3 rfl rfl ?_)
    refine Br.ndec (fun c93 => ?_) (fun hc => absurd hc (by first | omega | assumption | decide | exact rfl))
    refine StillVC.run (StillVC.fieldAddr st38 rfl rfl rfl ?_)
    refine StillVC.run (StillVC.loadO o90 0 rfl ty9 rfl rfl ?_)
    refine RetVC.one rfl ?_
    exact ⟨rfl, Own.sel (by assumption) [] rfl⟩

/-- The offsets of what is written. -/
def offsW (l : List Tok) (n : Nat) : List Value := (List.range n).map fun k => .int .i64 (wrs (l.take k)).length

theorem offsW_snoc (l : List Tok) (n : Nat) : offsW l (n + 1) = offsW l n ++ [.int .i64 (wrs (l.take n)).length] := by
  unfold offsW
  rw [List.range_succ, List.map_append]
  rfl

theorem offsW_get (l : List Tok) {n k : Nat} (h : k < n) : (offsW l n)[k]? = some (.int .i64 (wrs (l.take k)).length) := by
  unfold offsW
  simp [h]

set_option maxHeartbeats 4000000 in
set_option maxRecDepth 100000 in
theorem joined_spec (l : List Tok) (v : Value) (h : Heap) (hA : ArrN 4 h v l.length (l.flatMap tokC)) (hl : l.length ≤ 5000) (hx : ∀ x ∈ l, x.text.length ≤ 100000) (hw : (wrs l).length ≤ 1000000) :
    SpecR Tryz.prog 12 [v] h fun r h' => ∃ u, r = .tuple ⟨[.string ⟨⟨wrs l⟩⟩, u]⟩ ∧ Own h [row u 3 1 l.length (offsW l l.length)] h' := by
  refine Spec.enter Tryz.func12 rfl Tryz.ntmps12 (by kernel_rfl) ?_
  have o0 := (Own.refl h).nilRow 3 1
  refine LoopVC.intro [4, 5, 6, 7, 8, 9, 10, 11, 12, 13, 14, 15, 16, 17, 18, 19, 20, 21, 22, 23, 24, 25] [4, 5, 6] (fun vs hh => ∃ (i : Nat) (u : Value), i ≤ l.length ∧ vs = [.string ⟨⟨wrs (l.take i)⟩⟩, u, .int .i64 i] ∧ Own h [row u 3 1 i (offsW l i)] hh) (fun vs _ => match vs with | [_, _, .int _ i] => l.length - i.toNat | _ => 0) ?_ ?_
  · exact ⟨0, _, by omega, rfl, o0⟩
  · rintro vs junk hh ⟨i, u, hi, rfl, oh⟩
    have hle := wrs_take_le l i
    by_cases hlt : i < l.length
    · obtain ⟨x, hxi⟩ := getx hlt
      have hxt := hx x (List.mem_of_getElem? hxi)
      have hwt := wrs_take hxi
      have hle2 := wrs_take_le l (i + 1)
      rw [hwt] at hle2
      simp only [List.length_append, List.length_cons, List.length_nil] at hle2
      refine StillVC.run (StillVC.lenN (hA.ext oh.ext) sl31 ?_)
      refine Br.dec (fun c21 => ?_) (fun hc => absurd (by omega) hc)
      refine StillVC.run (StillVC.lenS rfl str9 ?_)
      (refine RunVC.lit oh sl34 ty3 rfl rfl (by decide) (And.intro rfl ?_); intro b23 m23 o23)
      (refine RunVC.append o23 0 rfl sl34 ty3 (by decide) (o23.boxArr 1 rfl (by simp) (by simp)).toN (by simp [Value.oneCell']) (by simp only [maxLen]; first | omega | (simp; omega)) (by first | omega | (simp; omega)) ?_; intro v24 m24 o24)
      refine StillVC.run (StillVC.idxN sl31 ty38 (hA.ext o24.ext) rfl (by omega) (by omega) ?_)
      refine StillVC.run (StillVC.loadFT ty38 (hA.ext o24.ext) (fun _ => rfl) (by decide) rfl (by assumption) ?_)
      refine CallVC.ret (spelled_spec x _ hxt) ?_
      rintro _ h2 ⟨rfl, oc⟩
      have o2 := oc.thenE (by assumption)
      refine StillVC.run (StillVC.strAdd rfl rfl (by first | omega | (simp; omega)) ?_)
      refine StillVC.run (StillVC.strAdd rfl rfl (by first | omega | (simp; omega)) ?_)
      refine Ar.i64 (by omega) (by omega) ?_
      refine ⟨rfl, ?_⟩
      refine ⟨⟨i + 1, v24, by omega, by rw [hwt]; rfl, ?_⟩, by simp; omega⟩
      rw [offsW_snoc]
      exact Own.sel (by assumption) [0] rfl
    · have e : l.take i = l := List.take_of_length_le (by omega)
      obtain rfl : i = l.length := by omega
      rw [e]
      refine StillVC.run (StillVC.lenN (hA.ext oh.ext) sl31 ?_)
      refine Br.dec (fun hc => absurd hc (by omega)) (fun c81 => ?_)
      refine RetVC.two rfl ?_
      exact ⟨_, rfl, oh⟩

end Go.Proofs.YtnmfanjhepepbaaGreatDoor

/- The walk of ParserTokens. -/
namespace Go.Proofs.YtnmfanjhepepbaaGreatDoor
open Go

/-- An error, of tokens that are alike. -/
theorem itemsA_errRel (z z' : Nat) : ∀ (f f' : Nat) (acc acc' : List It) (ts ts' : List Tok) (e : Int) (o : Nat), acc.length = acc'.length → ts.length < f → ts'.length < f' → LW ts → TWs ts' → TE QA ts ts' → itemsA z f acc ts = .error (e, o) →
    (e = 7 ∧ o = z ∧ itemsA z' f' acc' ts' = .error (7, z')) ∨ (e ≠ 7 ∧ ∃ (k : Nat) (t t' : Tok), ts[k]? = some t ∧ ts'[k]? = some t' ∧ o = t.off ∧ itemsA z' f' acc' ts' = .error (e, t'.off))
  | 0, _, _, _, _, _, _, _, _, h, _, _, _, _, _ => absurd h (Nat.not_lt_zero _)
  | _ + 1, 0, _, _, _, _, _, _, _, _, h, _, _, _, _ => absurd h (Nat.not_lt_zero _)
  | f + 1, f' + 1, acc, acc', [], ts', e, o, _, _, _, _, _, _, h => by cases h
  | f + 1, f' + 1, acc, acc', t :: q, ts', e, o, hl, h1, h2, hw, hw', ht, h => by
    obtain ⟨t', q', rfl, htt⟩ := ht.he.cons_left
    simp only [List.length_cons] at h1 h2
    by_cases hfull : acc.length = 200
    · rw [itemsA_full hfull] at h
      cases h
      exact .inr ⟨by decide, 0, t, t', rfl, rfl, rfl, itemsA_full (by omega)⟩
    · cases hp : itemP z (t :: q) with
      | error y =>
        obtain ⟨e1, o1⟩ := y
        rw [itemsA_err hfull hp] at h
        cases h
        rcases item_err (Q := QA) hw hp with ⟨he, ho, k⟩ | ⟨he, p, t1, r, e1, ho, k⟩
        · exact .inl ⟨he, ho, itemsA_err (by omega) (k z' _ hw' ht)⟩
        · rw [e1] at ht
          obtain ⟨p', r', e2, k1, k2⟩ := ht.split
          cases k2 with
          | @cons _ t2 _ r2 k2 k3 =>
            have hw2 := hw'
            rw [e2] at hw2
            have := k z' p' t2 r2 hw2.left (hw2.right t2 (by simp)) hw2.right.tail k1 k2
            rw [← e2] at this
            refine .inr ⟨he, p.length, t1, t2, by rw [e1]; simp, by rw [e2, k1.len]; simp, ho, itemsA_err (by omega) this⟩
      | ok y =>
        obtain ⟨x, r⟩ := y
        rw [itemsA_ok hfull hp] at h
        have hlt := itemP_lt hp
        simp only [List.length_cons] at hlt
        obtain ⟨p, hne, e1, k⟩ := item_firm (Q := QA) hw hp
        rw [e1] at ht hw
        obtain ⟨p', r', e2, k1, k2⟩ := ht.split
        have hw2 := hw'
        rw [e2] at hw2
        obtain ⟨x', ex, _⟩ := k z' p' r' hw2.left hw2.right k1
        rw [← e2] at ex
        have hlt' := itemP_lt ex
        simp only [List.length_cons] at hlt'
        rw [itemsA_ok (by omega : acc'.length ≠ 200) ex]
        rcases itemsA_errRel z z' f f' (acc ++ [x]) (acc' ++ [x']) r r' e o (by simp [hl]) (by omega) (by omega) hw.right hw2.right k2 h with ⟨a1, a2, a3⟩ | ⟨a1, kk, a, b, a2, a3, a4, a5⟩
        · exact .inl ⟨a1, a2, a3⟩
        · refine .inr ⟨a1, p.length + kk, a, b, ?_, ?_, a4, a5⟩
          · rw [e1, List.getElem?_append_right (by omega), Nat.add_sub_cancel_left]; exact a2
          · rw [e2, k1.len, List.getElem?_append_right (by omega), Nat.add_sub_cancel_left]; exact a3

/-- What is written of the tokens, parsed. -/
theorem tokens_plain {s : List UInt8} {l : List Tok} (hs : s.length ≤ 2000) (hL : lexM s = .ok l) : lexM (wrs l) = .ok (wrsT l 0) ∧ (wrs l).length ≤ 5000 ∧ l.length ≤ 2000 ∧ (∀ x ∈ l, x.text.length ≤ 2000) ∧ LW l ∧
    (∀ xs, parseM s = .ok xs → ∃ ys, parseM (wrs l) = .ok ys ∧ ItsQ QA xs ys) ∧
    (∀ e o, parseM s = .error (e, o) → (e = 7 ∧ o = s.length ∧ parseM (wrs l) = .error (7, (wrs l).length)) ∨ (e ≠ 7 ∧ ∃ (k : Nat) (t : Tok), l[k]? = some t ∧ o = t.off ∧ parseM (wrs l) = .error (e, (wrs (l.take k)).length))) := by
  have g := lexM_okG hL
  obtain ⟨w, b, c⟩ := LexG.wf _ _ _ _ (Nat.le_refl _) g
  obtain ⟨g1, g2, g3⟩ := LexG.good _ _ _ _ (Nat.le_refl _) g
  have hT := wrs_lexT l 0 g1
  have hwt := wrsT_te l 0
  have hM := lexM_of (by rw [wrsT_len]; omega) hT
  have w2 := (LexG.wf _ _ _ _ (Nat.le_refl _) hT).1
  refine ⟨hM, by omega, by omega, fun x hx => by have := g3 x hx; omega, w, fun xs hx => ?_, fun e o he => ?_⟩
  · obtain ⟨i1, i2⟩ := (parseM_ok hL).1 hx
    obtain ⟨ys, j1, j2⟩ := i1.map (Q := QA) (z' := (wrs l).length) w w2.1 hwt
    exact ⟨ys, (parseM_ok hM).2 ⟨j1, by rw [← itsQ_len j2]; exact i2⟩, j2⟩
  · unfold parseM at he ⊢
    rw [hL] at he
    rw [hM]
    simp only at he ⊢
    rcases itemsA_errRel s.length (wrs l).length (l.length + 1) ((wrsT l 0).length + 1) [] [] l (wrsT l 0) e o rfl (by omega) (by omega) w w2.1 hwt he with ⟨a1, a2, a3⟩ | ⟨a1, k, t, t', a2, a3, a4, a5⟩
    · exact .inl ⟨a1, a2, a3⟩
    · have := wrsT_get l 0 k a3
      rw [Nat.zero_add] at this
      exact .inr ⟨a1, k, t, a2, a4, by rw [a5, this]⟩

set_option maxHeartbeats 8000000 in
set_option maxRecDepth 100000 in
theorem tokens_spec (s : List UInt8) (h : Heap) (hs : s.length ≤ 9223372036854775807) (hW : WordsH h) : SpecR Tryz.prog 4 [.string ⟨⟨s⟩⟩] h fun v h' => v = .bool true ∧ Own h [] h' := by
  refine Spec.enter Tryz.func4 rfl Tryz.ntmps4 (by kernel_rfl) ?_
  have o0 := Own.refl h
  refine CallVC.ret (head_spec _ hW) ?_
  rintro _ h1' ⟨rfl, oc⟩
  have o1 := oc.thenE (by assumption)
  clear oc
  by_cases hbig : 2000 < s.length
  · refine StillVC.run (StillVC.lenS rfl str9 ?_)
    refine Br.dec (fun c21 => ?_) (fun hc => absurd (by omega) hc)
    refine RetVC.one rfl ?_
    exact ⟨rfl, Own.sel (by assumption) [] rfl⟩
  refine StillVC.run (StillVC.lenS rfl str9 ?_)
  refine Br.dec (fun hc => absurd hc (by omega)) (fun c41 => ?_)
  refine CallVC.ret (lex_spec s _ hs) ?_
  rintro v h2 hv
  unfold LexPost at hv
  rw [if_neg (by omega)] at hv
  cases hL : lexM s with
  | error y =>
    obtain ⟨e, i⟩ := y
    rw [hL] at hv
    obtain ⟨rfl, oc⟩ := hv
    have o2 := oc.thenE o1
    have hne := lexM_props.1 e i hL
    clear oc
    refine Br.ndec (fun c60 => ?_) (fun hc => absurd hc (by first | omega | assumption | decide | exact rfl))
    have hPM : parseM s = .error (e, i) := by unfold parseM; rw [hL]
    refine CallVC.ret (parse_cases (by omega) _ (hW.ext (Own.ext (by assumption)))) ?_
    rintro _ h3 (⟨e2, i2, hM, hne2, rfl, oc⟩ | ⟨xs, ts, ua, uc, I, hM, _, _, _, rfl, hp, oc⟩)
    · rw [hPM] at hM
      cases hM
      have o3 := oc.thenE (by assumption)
      (refine RunVC.alloc o3 ty25 ?_; intro b80 m80 o80)
      (refine RunVC.storeL o80 0 rfl ty25 rfl (by decide) (And.intro ⟨rfl, rfl⟩ ?_); intro m81 o81)
      refine Br.tt ?_
      refine RetVC.one rfl ?_
      exact ⟨by simp, Own.sel (by assumption) [] rfl⟩
    · rw [hPM] at hM
      cases hM
  | ok l =>
    rw [hL] at hv
    obtain ⟨u, rfl, oc⟩ := hv
    obtain ⟨hM2, hwl, hll, hlt, hlw, hok, herr⟩ := tokens_plain (by omega) hL
    have o2 := o1.call oc
    simp only [List.nil_append] at o2
    obtain ⟨ua, uc, rfl⟩ := o2.rowIs 0 rfl
    clear oc
    refine Br.ff ?_
    refine CallVC.ret (joined_spec l _ _ (o2.rowArrN 0 rfl) (by omega) (fun x hx => by have := hlt x hx; omega) (by omega)) ?_
    rintro _ h3 ⟨ju, rfl, oc⟩
    have o3 := o2.call oc
    simp only [List.cons_append, List.nil_append] at o3
    clear oc
    obtain ⟨ja, jc, rfl⟩ := o3.rowIs 1 rfl
    refine CallVC.ret (parse_cases (by omega) _ (hW.ext (Own.ext (h := h3) (by assumption)))) ?_
    rintro _ h4 (⟨e, i, hPM, hne, rfl, oc⟩ | ⟨xs, ts, xa, xc, I, hPM, hL1, hI, hlen, rfl, hp, oc⟩)
    · have o4 := oc.thenE (by assumption)
      clear oc
      (refine RunVC.alloc o4 ty25 ?_; intro b200 m200 o200)
      (refine RunVC.storeL o200 2 rfl ty25 rfl (by decide) (And.intro ⟨rfl, rfl⟩ ?_); intro m201 o201)
      refine CallVC.ret (parse_cases (by omega) _ (hW.ext (Own.ext (h := m201) (by assumption)))) ?_
      rintro _ h5 hv5
      rcases herr e i hPM with ⟨rfl, rfl, hE⟩ | ⟨h7, k, tk, hk, rfl, hE⟩
      · rcases hv5 with ⟨e2, i2, hM3, _, rfl, oc⟩ | ⟨ys, ts3, wa, wc, J, hM3, _⟩
        · rw [hE] at hM3
          cases hM3
          have o5 := oc.thenE (by assumption)
          clear oc
          (refine RunVC.alloc o5 ty25 ?_; intro b240 m240 o240)
          (refine RunVC.storeL o240 3 rfl ty25 rfl (by decide) (And.intro ⟨rfl, rfl⟩ ?_); intro m241 o241)
          refine Br.ff ?_
          refine StillVC.run (StillVC.loadON o241 2 rfl ty25 rfl rfl rfl ?_)
          refine StillVC.run (StillVC.loadON o241 3 rfl ty25 rfl rfl rfl ?_)
          refine CallVC.ret (same_spec QA false (fun h => by cases h) emptyI emptyI [] [] nilV nilV _ (by simp) trivial (by simp) ⟨[], nil_reads, trivial⟩ ⟨[], nil_reads, trivial⟩ (fun _ _ => trivial) (fun _ _ => trivial)) ?_
          rintro _ h6 ⟨rfl, oc⟩
          have o6 := oc.thenE (by assumption)
          refine Br.ff ?_
          refine Br.ff ?_
          refine Br.tt ?_
          refine Br.tt ?_
          refine Br.ff ?_
          refine Br.tt ?_
          refine StillVC.run (StillVC.lenS rfl str9 ?_)
          refine Br.dec (fun c261 => ?_) (fun hc => absurd (by omega) hc)
          refine StillVC.run (StillVC.lenS rfl str9 ?_)
          refine RetVC.one rfl ?_
          exact ⟨by simp, Own.sel (by assumption) [] rfl⟩
        · rw [hE] at hM3
          cases hM3
      · rcases hv5 with ⟨e2, i2, hM3, _, rfl, oc⟩ | ⟨ys, ts3, wa, wc, J, hM3, _⟩
        · rw [hE] at hM3
          cases hM3
          have o5 := oc.thenE (by assumption)
          clear oc
          (refine RunVC.alloc o5 ty25 ?_; intro b300 m300 o300)
          (refine RunVC.storeL o300 3 rfl ty25 rfl (by decide) (And.intro ⟨rfl, rfl⟩ ?_); intro m301 o301)
          refine Br.ndec (fun hc => absurd (by first | omega | assumption | decide | exact rfl) hc) (fun c302 => ?_)
          refine StillVC.run (StillVC.loadON o301 2 rfl ty25 rfl rfl rfl ?_)
          refine StillVC.run (StillVC.loadON o301 3 rfl ty25 rfl rfl rfl ?_)
          refine CallVC.ret (same_spec QA false (fun h => by cases h) emptyI emptyI [] [] nilV nilV _ (by simp) trivial (by simp) ⟨[], nil_reads, trivial⟩ ⟨[], nil_reads, trivial⟩ (fun _ _ => trivial) (fun _ _ => trivial)) ?_
          rintro _ h6 ⟨rfl, oc⟩
          have o6 := oc.thenE (by assumption)
          clear oc
          obtain ⟨hkl, _⟩ := List.getElem?_eq_some_iff.1 hk
          refine Br.ff ?_
          refine Br.dec (fun hc => absurd hc (by omega)) (fun c320 => ?_)
          refine Br.dec (fun hc => absurd hc (by omega)) (fun c321 => ?_)
          refine LoopVC.intro [2, 18, 105, 106, 107, 108, 109, 110, 111, 112, 113, 114, 115, 116, 117, 118, 119, 120, 121, 122, 123, 124, 125, 126] [18] (fun vs hh => ∃ (n : Nat), n ≤ k ∧ vs = [.int .i64 n] ∧ Own h [row (.slice ua l.length uc) 38 4 l.length (l.flatMap tokC), row (.slice ja l.length jc) 3 1 l.length (offsW l l.length)] hh) (fun vs _ => match vs with | [.int _ n] => l.length - n.toNat | _ => 0) ?_ ?_
          · exact ⟨0, by omega, rfl, Own.sel (by assumption) [0, 1] rfl⟩
          · rintro vs junk hh ⟨n, hn, rfl, oh⟩
            obtain ⟨y, hy⟩ := getx (show n < l.length by omega)
            have hon := offsW_get l (show n < l.length by omega)
            have hol : (offsW l l.length).length = l.length := by unfold offsW; simp
            by_cases hnk : n = k
            · subst hnk
              rw [hk] at hy
              cases hy
              refine StillVC.run (StillVC.lenV rfl sl31 ?_)
              refine Br.dec (fun c361 => ?_) (fun hc => absurd (by omega) hc)
              refine StillVC.run (StillVC.idxN sl31 ty38 (oh.rowArrN 0 rfl) rfl (by omega) (by omega) ?_)
              refine StillVC.run (StillVC.fieldAdr (oh.rowArrN 0 rfl) (by omega) st38 rfl rfl rfl ?_)
              refine StillVC.run (StillVC.loadFF (oh.rowArrN 0 rfl) ty3 (fun _ => rfl) rfl (by assumption) rfl ?_)
              refine Br.dec (fun c365 => ?_) (fun hc => absurd (by omega) hc)
              refine Br.tt ?_
              refine StillVC.run (StillVC.idx sl34 ty3 (oh.rowArr 1 rfl) rfl (by omega) (by omega) ?_)
              refine StillVC.run (StillVC.loadA (oh.rowArr 1 rfl) ty3 rfl (by first | assumption | rfl) ?_)
              refine RetVC.one rfl ?_
              exact ⟨by simp, Own.sel (by assumption) [] rfl⟩
            · have hne : y.off ≠ tk.off := by
                have hp := List.pairwise_iff_getElem.1 hlw.2 n k (by omega) hkl (by omega)
                obtain ⟨_, e1⟩ := List.getElem?_eq_some_iff.1 hy
                obtain ⟨_, e2⟩ := List.getElem?_eq_some_iff.1 hk
                rw [e1, e2] at hp
                exact hp
              refine StillVC.run (StillVC.lenV rfl sl31 ?_)
              refine Br.dec (fun c381 => ?_) (fun hc => absurd (by omega) hc)
              refine StillVC.run (StillVC.idxN sl31 ty38 (oh.rowArrN 0 rfl) rfl (by omega) (by omega) ?_)
              refine StillVC.run (StillVC.fieldAdr (oh.rowArrN 0 rfl) (by omega) st38 rfl rfl rfl ?_)
              refine StillVC.run (StillVC.loadFF (oh.rowArrN 0 rfl) ty3 (fun _ => rfl) rfl (by assumption) rfl ?_)
              refine Br.dec (fun hc => absurd hc (by omega)) (fun c385 => ?_)
              refine Ar.i64 (by omega) (by omega) ?_
              refine ⟨rfl, ?_⟩
              exact ⟨⟨n + 1, by omega, rfl, Own.sel (by assumption) [0, 1] rfl⟩, by simp; omega⟩
        · rw [hE] at hM3
          cases hM3
    · have o4 := Own.call (by assumption) oc
      simp only [List.cons_append, List.nil_append] at o4
      clear oc
      obtain ⟨ys, hY, hQ⟩ := hok xs hPM
      (refine RunVC.alloc o4 ty25 ?_; intro b400 m400 o400)
      (refine RunVC.storeL o400 3 rfl ty25 rfl (by decide) (And.intro ⟨rfl, rfl⟩ ?_); intro m401 o401)
      refine CallVC.ret (parse_cases (by omega) _ (hW.ext (Own.ext (h := m401) (by assumption)))) ?_
      rintro _ h5 (⟨e2, i2, hM3, _⟩ | ⟨yy, ts3, wa, wc, J, hM3, hL3, hI3, hlen3, rfl, hp3, oc⟩)
      · rw [hY] at hM3
        cases hM3
      rw [hY] at hM3
      cases hM3
      have o5 := Own.call (by assumption) oc
      simp only [List.cons_append, List.nil_append] at o5
      clear oc
      (refine RunVC.alloc o5 ty25 ?_; intro b440 m440 o440)
      (refine RunVC.storeL o440 5 rfl ty25 rfl (by decide) (And.intro ⟨rfl, rfl⟩ ?_); intro m441 o441)
      refine Br.ff ?_
      refine StillVC.run (StillVC.loadON o441 3 rfl ty25 rfl rfl rfl ?_)
      refine StillVC.run (StillVC.loadON o441 5 rfl ty25 rfl rfl rfl ?_)
      refine CallVC.ret (same_spec QA false (fun h => by cases h) I J xs ys _ _ _ (hI.bound (N := 9999) (by decide) (by have := (lexM_props.2 ts hL1).1; omega)) hQ (by omega) hp hp3 (Own.satE (by assumption) 2 rfl) (Own.satE (by assumption) 4 rfl)) ?_
      rintro _ h6 ⟨rfl, oc⟩
      have o6 := oc.thenE (by assumption)
      refine Br.ff ?_
      refine Br.tt ?_
      refine Br.tt ?_
      refine Br.tt ?_
      refine Br.tt ?_
      refine Br.tt ?_
      refine Br.tt ?_
      refine RetVC.one rfl ?_
      exact ⟨by simp, Own.sel (by assumption) [] rfl⟩

end Go.Proofs.YtnmfanjhepepbaaGreatDoor
