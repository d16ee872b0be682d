/-
  The walks of LexerContents and LexerAgain.
-/
import Derived.Test.YtofbiladpmcjgaaGreatDoorStructs
import Derived.Test.YtofbiladpmcjgaaGreatDoorFnLexP
import Derived.Test.YtofbiladpmcjgaaGreatDoorFnVal
namespace Go.Proofs.YtofbiladpmcjgaaGreatDoor
open Go

/- A TEXT IN QUOTES, READ AGAIN -/
theorem quoF_34 (w acc : List UInt8) (m : Nat) : quoF (34 :: w) acc m = if 200 < acc.length then .err 3 else .tok 3 acc 0 (m + 2) := by
  cases w with
  | nil => rw [quoF, if_pos (by decide)]
  | cons d r => rw [quoF, if_pos (by decide)]

theorem quoF_escS : ∀ (s w acc : List UInt8) (m : Nat), acc.length + s.length ≤ 200 → quoF (escS s ++ 34 :: w) acc m = .tok 3 (acc ++ s) 0 (m + (escS s).length + 2)
  | [], w, acc, m, h => by
    show quoF (34 :: w) acc m = _
    rw [quoF_34, if_neg (by simp at h; omega)]
    simp [escS]
  | c :: s, w, acc, m, h => by
    have e : escS (c :: s) = esc1 c ++ escS s := by simp [escS]
    have hh : (acc ++ [c]).length + s.length ≤ 200 := by simp at h ⊢; omega
    rw [e]
    unfold esc1
    by_cases h34 : c = 34
    · subst h34
      rw [if_pos rfl]
      show quoF (92 :: 34 :: (escS s ++ 34 :: w)) acc m = _
      rw [quoF, if_neg (by decide), if_neg (by decide), if_pos (by decide), show escB 34 = some 34 from rfl]
      simp only
      rw [quoF_escS s w _ _ hh]
      simp; omega
    · rw [if_neg h34]
      by_cases h92 : c = 92
      · subst h92
        rw [if_pos rfl]
        show quoF (92 :: 92 :: (escS s ++ 34 :: w)) acc m = _
        rw [quoF, if_neg (by decide), if_neg (by decide), if_pos (by decide), show escB 92 = some 92 from rfl]
        simp only
        rw [quoF_escS s w _ _ hh]
        simp; omega
      · rw [if_neg h92]
        by_cases h10 : c = 10
        · subst h10
          rw [if_pos rfl]
          show quoF (92 :: 110 :: (escS s ++ 34 :: w)) acc m = _
          rw [quoF, if_neg (by decide), if_neg (by decide), if_pos (by decide), show escB 110 = some 10 from rfl]
          simp only
          rw [quoF_escS s w _ _ hh]
          simp; omega
        · rw [if_neg h10]
          have toN : ∀ {a b : UInt8}, a ≠ b → a.toNat ≠ b.toNat := fun h e => h (UInt8.toNat_inj.1 e)
          have n34 : c.toNat ≠ 34 := toN h34
          have n10 : c.toNat ≠ 10 := toN h10
          have n92 : c.toNat ≠ 92 := toN h92
          have ih := quoF_escS s w (acc ++ [c]) (m + 1) hh
          have step : quoF (c :: (escS s ++ 34 :: w)) acc m = quoF (escS s ++ 34 :: w) (acc ++ [c]) (m + 1) := by
            cases hr : escS s ++ 34 :: w with
            | nil => simp at hr
            | cons d r => rw [quoF, if_neg n34, if_neg n10, if_neg n92]
          show quoF (c :: (escS s ++ 34 :: w)) acc m = _
          rw [step, ih]
          simp; omega

theorem readR_escS (s w : List UInt8) (h : s.length ≤ 200) : readR (34 :: (escS s ++ 34 :: w)) = .tok 3 s 0 ((escS s).length + 2) := by
  rw [readR_quote (by decide) (by decide) (by decide), quoF_escS s w [] 0 (by simpa using h)]
  simp

/-- What a text in quotes takes in the text, and how long it is. -/
theorem quoF_esc_len : ∀ (l acc : List UInt8) (m : Nat) {k n : Int} {x : List UInt8} {len : Nat}, quoF l acc m = .tok k x n len → (escS acc).length = m → (escS x).length + 2 = len ∧ x.length ≤ 200
  | [], _, _, _, _, _, _, h, _ => by cases h
  | [c], acc, m, _, _, _, _, h, he => by
    rw [quoF] at h
    split at h
    · split at h <;> cases h
      exact ⟨by omega, by omega⟩
    · split at h <;> cases h
  | c :: d :: r, acc, m, _, _, _, _, h, he => by
    rw [quoF] at h
    split at h
    · split at h <;> cases h
      exact ⟨by omega, by omega⟩
    · rename_i h34
      split at h
      · cases h
      · rename_i h10
        split at h
        · split at h
          · cases h
          · rename_i y hy
            refine quoF_esc_len r _ _ h ?_
            have : spc y = true := by
              unfold escB at hy
              split at hy
              · cases hy; rfl
              · split at hy
                · cases hy; rfl
                · split at hy <;> cases hy
                  rfl
            have h2 := esc1_len y
            rw [this] at h2
            have e : escS (acc ++ [y]) = escS acc ++ esc1 y := by simp [escS]
            rw [e, List.length_append, he, h2]
            rfl
        · rename_i h92
          refine quoF_esc_len (d :: r) _ _ h ?_
          have hs : spc c = false := by
            unfold spc
            refine decide_eq_false ?_
            rintro (rfl | rfl | rfl)
            · exact h34 rfl
            · exact h92 rfl
            · exact h10 rfl
          have e : escS (acc ++ [c]) = escS acc ++ esc1 c := by simp [escS]
          rw [e, List.length_append, he, esc1_other hs]
          rfl

/- TOKENS THAT ARE WRITTEN -/
def wr (x : Tok) : List UInt8 := if x.kind = 3 then [34] ++ escS x.text ++ [34] else x.text
def wrs (ts : List Tok) : List UInt8 := ts.flatMap fun x => wr x ++ [32]

structure Good (x : Tok) : Prop where
  read : ∀ rest, readR (wr x ++ 32 :: rest) = .tok x.kind x.text x.num (wr x).length
  short : x.kind = 3 → x.text.length ≤ 200

theorem good_of {l : List UInt8} {k n : Int} {x : List UInt8} {len i : Nat} (h : readR l = .tok k x n len) : Good ⟨k, x, n, i⟩ ∧ (wr ⟨k, x, n, i⟩).length = len := by
  obtain ⟨h1, h2⟩ := readR_len h
  by_cases hk : k = 3
  · subst hk
    cases l with
    | nil => cases h
    | cons c r =>
      have key : c.toNat = 34 ∧ quoF r [] 0 = .tok 3 x n len := by
        cases hlet : letterB c with
        | true =>
          rw [readR_letter hlet] at h
          split at h <;> cases h
        | false =>
          cases hdig : digitB c with
          | true =>
            rw [readR_digit hlet hdig] at h
            split at h <;> cases h
          | false =>
            by_cases h34 : c.toNat = 34
            · rw [readR_quote hlet hdig h34] at h
              exact ⟨h34, h⟩
            · rw [readR_symbol hlet hdig h34] at h
              split at h <;> cases h
      obtain ⟨q1, q2⟩ := quoF_esc_len _ _ _ key.2 rfl
      obtain ⟨_, rfl⟩ := quoF_tok _ _ _ key.2
      have hw : wr ⟨3, x, 0, i⟩ = 34 :: (escS x ++ [34]) := rfl
      have hwl : (wr ⟨3, x, 0, i⟩).length = (escS x).length + 2 := by rw [hw]; simp
      refine ⟨⟨fun rest => ?_, fun _ => q2⟩, by rw [hwl]; exact q1⟩
      rw [hwl, hw]
      have := readR_escS x (32 :: rest) q2
      simpa using this
  · have hx := readR_text h hk
    have hw : wr ⟨k, x, n, i⟩ = x := if_neg hk
    have hxl : x.length = len := by rw [hx, List.length_take]; omega
    refine ⟨⟨fun rest => ?_, fun e => absurd e hk⟩, by rw [hw]; exact hxl⟩
    rw [hw, hxl]
    refine readR_cong h ?_ ?_
    · rw [List.take_append_of_le_length (by omega), List.take_of_length_le (by omega)]
      exact hx
    · intro c hc
      rw [List.getElem?_append_right (by omega), show len - x.length = 0 by omega] at hc
      exact .inr (blank_ok rest c hc)

theorem LexG.good : ∀ (n : Nat) (l : List UInt8) (i : Nat) (ts : List Tok), l.length ≤ n → LexG l i (.ok ts) → (∀ x ∈ ts, Good x) ∧ (wrs ts).length ≤ l.length + ts.length ∧ (∀ x ∈ ts, x.text.length ≤ l.length) := by
  intro n
  induction n with
  | zero =>
    intro l i ts hn h
    obtain rfl : l = [] := List.eq_nil_of_length_eq_zero (by omega)
    rcases h.inv_ok with ⟨rfl, _⟩ | ⟨_, _, _, _, _, _, hlt, _⟩
    · simp [wrs]
    · simp at hlt
  | succ n ih =>
    intro l i ts hn h
    rcases h.inv_ok with ⟨rfl, _⟩ | ⟨k, x, m, len, us, hR, hlt, rfl, hrest⟩
    · simp [wrs]
    · obtain ⟨h1, h2⟩ := readR_len hR
      rw [List.length_drop] at h2
      obtain ⟨g1, g2⟩ := good_of (i := i + gapF false l) hR
      obtain ⟨i1, i2, i3⟩ := ih (l.drop (gapF false l + len)) (i + gapF false l + len) us (by rw [List.length_drop]; omega) hrest
      rw [List.length_drop] at i2
      refine ⟨fun y hy => ?_, ?_, fun y hy => ?_⟩
      · rcases List.mem_cons.1 hy with rfl | hy
        · exact g1
        · exact i1 y hy
      · have e : wrs (⟨k, x, m, i + gapF false l⟩ :: us) = wr ⟨k, x, m, i + gapF false l⟩ ++ [32] ++ wrs us := by simp [wrs]
        rw [e]
        simp only [List.length_append, List.length_cons, List.length_nil, g2]
        omega
      · rcases List.mem_cons.1 hy with rfl | hy
        · show x.length ≤ l.length
          by_cases hk : k = 3
          · have hw : (wr ⟨k, x, m, i + gapF false l⟩).length = (escS x).length + 2 := by
              unfold wr; rw [if_pos hk]; simp
            have hx2 : x.length ≤ (escS x).length := by rw [escS_len]; omega
            omega
          · rw [readR_text hR hk, List.length_take, List.length_drop]; omega
        · have := i3 y hy
          rw [List.length_drop] at this
          omega

theorem LexG.blank {l : List UInt8} {i : Nat} {r : Except (Int × Nat) (List Tok)} (h : LexG l (i + 1) r) : LexG (32 :: l) i r := by
  unfold LexG at h ⊢
  rw [gapF_blank, Nat.add_comm 1, List.drop_succ_cons]
  rwa [show i + 1 + gapF false l = i + (gapF false l + 1) by omega] at h

theorem LexG.first {l : List UInt8} {i : Nat} {k n : Int} {x : List UInt8} {len : Nat} {r : Except (Int × Nat) (List Tok)} (hR : readR l = .tok k x n len) (hr : LexG (l.drop len) (i + len) r) : LexG l i (consE ⟨k, x, n, i⟩ r) := by
  have h0 := tok_gap hR
  obtain ⟨h1, h2⟩ := readR_len hR
  have st := LexG.step (l := l) (i := i) (by rw [h0]; omega) (by rw [h0, List.drop_zero]; exact hR) (by rw [h0, Nat.zero_add, Nat.add_zero]; exact hr)
  rw [h0] at st
  exact st

theorem wrs_lex : ∀ (ts : List Tok) (i : Nat), (∀ x ∈ ts, Good x) → ∃ us, LexG (wrs ts) i (.ok us) ∧ us.map Tok.key = ts.map Tok.key
  | [], i, _ => ⟨[], LexG.all rfl i, rfl⟩
  | x :: ts, i, h => by
    have hx := h x (by simp)
    obtain ⟨us, hus, hk⟩ := wrs_lex ts (i + (wr x).length + 1) (fun y hy => h y (by simp [hy]))
    have e : wrs (x :: ts) = wr x ++ 32 :: wrs ts := by simp [wrs]
    refine ⟨⟨x.kind, x.text, x.num, i⟩ :: us, ?_, by rw [List.map_cons, List.map_cons, hk]; rfl⟩
    rw [e]
    have := LexG.first (hx.read (wrs ts)) (i := i) (r := .ok us) (by rw [List.drop_left]; exact LexG.blank hus)
    exact this

/- THE WALKS -/
theorem LexR.err_ne {l : List UInt8} {i : Nat} {r : Except (Int × Nat) (List Tok)} (h : LexR l i r) : ∀ e j, r = .error (e, j) → e ≠ 0 := by
  induction h with
  | nil i => intro e j h; cases h
  | err hl h =>
    intro e j h'
    cases h'
    have := readR_err h
    omega
  | tok hl h hr ih =>
    intro e j h'
    rename_i r
    cases r with
    | error y => exact ih e j h'
    | ok ts => cases h'

theorem wrs_take {ts : List Tok} {i : Nat} {x : Tok} (h : ts[i]? = some x) : wrs (ts.take (i + 1)) = wrs (ts.take i) ++ (wr x ++ [32]) := by
  unfold wrs
  rw [List.take_add_one, h, List.flatMap_append]
  simp

theorem wrs_le : ∀ (ts : List Tok) (m : Nat), (∀ x ∈ ts, x.text.length ≤ m) → (wrs ts).length ≤ ts.length * (2 * m + 3)
  | [], _, _ => by simp [wrs]
  | x :: ts, m, h => by
    have ih := wrs_le ts m (fun y hy => h y (by simp [hy]))
    have hx := h x (by simp)
    have hw : (wr x).length ≤ 2 * m + 2 := by
      unfold wr
      split
      · have := escS_le x.text
        simp only [List.length_append, List.length_cons, List.length_nil]
        omega
      · omega
    have e : wrs (x :: ts) = wr x ++ [32] ++ wrs ts := by simp [wrs]
    rw [e, List.length_cons, Nat.add_mul, Nat.one_mul]
    simp only [List.length_append, List.length_cons, List.length_nil]
    omega

theorem wrs_take_le (ts : List Tok) (i : Nat) : (wrs (ts.take i)).length ≤ (wrs ts).length := by
  conv => rhs; rw [← List.take_append_drop i ts]
  unfold wrs
  rw [List.flatMap_append, List.length_append]
  omega

theorem valT_text {t : List UInt8} (h : t.length ≤ 200) : valT 1 0 t = [34] ++ escS t ++ [34] := by
  unfold valT
  rw [if_neg (by simp only [Decidable.not_not]; exact .inr (.inl ⟨rfl, rfl, h⟩)), if_pos rfl]

set_option maxHeartbeats 4000000 in
set_option maxRecDepth 100000 in
theorem written_spec (ts : List Tok) (v : Value) (h : Heap) (hA : ArrN 4 h v ts.length (ts.flatMap tokC)) (hl : ts.length ≤ 3000) (hx : ∀ x ∈ ts, Good x ∧ x.text.length ≤ 3000) (hT : TabH h) :
    SpecR Tryz.prog 7 [v] h fun r h' => r = .string ⟨⟨wrs ts⟩⟩ ∧ Own h [] h' := by
  have hwl := wrs_le ts 3000 (fun x h => (hx x h).2)
  have hwl2 : (wrs ts).length ≤ 20000000 := Nat.le_trans hwl (Nat.le_trans (Nat.mul_le_mul_right _ hl) (by omega))
  refine Spec.enter Tryz.func7 rfl Tryz.ntmps7 (by kernel_rfl) ?_
  have o0 := Own.refl h
  refine LoopVC.intro [3, 4, 5, 6, 7, 8, 9, 10, 11, 12, 13, 14, 15, 16, 17, 18, 19, 20, 21, 22, 23, 24, 25, 26, 27, 28, 29, 30, 31, 32, 33, 34] [3, 4] (fun vs hh => ∃ (i : Nat), i ≤ ts.length ∧ vs = [.string ⟨⟨wrs (ts.take i)⟩⟩, .int .i64 i] ∧ Own h [] hh) (fun vs _ => match vs with | [_, .int _ i] => ts.length - i.toNat | _ => 0) ?_ ?_
  · exact ⟨0, by omega, rfl, o0⟩
  · rintro vs junk hh ⟨i, hi, rfl, oh⟩
    by_cases hlt : i < ts.length
    · obtain ⟨x, hxi⟩ := getx hlt
      obtain ⟨hg, hx3⟩ := hx x (List.mem_of_getElem? hxi)
      have ht1 := wrs_take hxi
      have hle := wrs_take_le ts i
      by_cases hk : x.kind = 3
      · have hw : wr x = [34] ++ escS x.text ++ [34] := if_pos hk
        have h200 := hg.short hk
        have hel := escS_le x.text
        refine StillVC.run (StillVC.lenN (hA.ext oh.ext) sl23 ?_)
        refine Br.dec (fun c21 => ?_) (fun hc => absurd (by omega) hc)
        refine StillVC.run (StillVC.idxN sl23 ty35 (hA.ext oh.ext) rfl (by omega) (by omega) ?_)
        refine StillVC.run (StillVC.fieldAdr (hA.ext oh.ext) (by omega) st35 rfl rfl rfl ?_)
        refine StillVC.run (StillVC.loadFF (hA.ext oh.ext) ty3 (fun _ => rfl) rfl (by assumption) rfl ?_)
        refine Br.dec (fun c25 => ?_) (fun hc => absurd (by omega) hc)
        refine StillVC.run (StillVC.idxN sl23 ty35 (hA.ext oh.ext) rfl (by omega) (by omega) ?_)
        refine StillVC.run (StillVC.fieldAdr (hA.ext oh.ext) (by omega) st35 rfl rfl rfl ?_)
        refine StillVC.run (StillVC.loadFF (hA.ext oh.ext) ty9 (fun _ => rfl) rfl (by assumption) rfl ?_)
        refine StillVC.run (StillVC.buildK st33 ?_)
        refine And.intro rfl ?_
        refine And.intro rfl ?_
        refine CallVC.ret (text_spec 1 0 x.text _ (by omega) (hT.ext oh.ext)) ?_
        rintro _ h2 ⟨rfl, ob⟩
        have o2 := oh.ext' ob
        rw [valT_text h200]
        have hll : ([34] ++ escS x.text ++ [34]).length ≤ 500 := by simp; omega
        generalize hQ : [34] ++ escS x.text ++ [34] = Q at *
        refine StillVC.run (StillVC.strAdd rfl rfl (by first | omega | (simp; omega)) ?_)
        refine StillVC.run (StillVC.strAdd rfl rfl (by first | omega | (simp; omega)) ?_)
        refine Ar.i64 (by omega) (by omega) ?_
        refine ⟨rfl, ?_⟩
        refine ⟨⟨i + 1, by omega, ?_, o2⟩, by simp; omega⟩
        rw [ht1, hw, ← List.append_assoc]
        rfl
      · have hw : wr x = x.text := if_neg hk
        refine StillVC.run (StillVC.lenN (hA.ext oh.ext) sl23 ?_)
        refine Br.dec (fun c61 => ?_) (fun hc => absurd (by omega) hc)
        refine StillVC.run (StillVC.idxN sl23 ty35 (hA.ext oh.ext) rfl (by omega) (by omega) ?_)
        refine StillVC.run (StillVC.fieldAdr (hA.ext oh.ext) (by omega) st35 rfl rfl rfl ?_)
        refine StillVC.run (StillVC.loadFF (hA.ext oh.ext) ty3 (fun _ => rfl) rfl (by assumption) rfl ?_)
        refine Br.dec (fun hc => absurd hc (by omega)) (fun c65 => ?_)
        refine StillVC.run (StillVC.idxN sl23 ty35 (hA.ext oh.ext) rfl (by omega) (by omega) ?_)
        refine StillVC.run (StillVC.fieldAdr (hA.ext oh.ext) (by omega) st35 rfl rfl rfl ?_)
        refine StillVC.run (StillVC.loadFF (hA.ext oh.ext) ty9 (fun _ => rfl) rfl (by assumption) rfl ?_)
        refine StillVC.run (StillVC.strAdd rfl rfl (by first | omega | (simp; omega)) ?_)
        refine StillVC.run (StillVC.strAdd rfl rfl (by first | omega | (simp; omega)) ?_)
        refine Ar.i64 (by omega) (by omega) ?_
        refine ⟨rfl, ?_⟩
        refine ⟨⟨i + 1, by omega, ?_, oh⟩, by simp; omega⟩
        rw [ht1, hw, ← List.append_assoc]
        rfl
    · have e1 : ts.take i = ts := List.take_of_length_le (by omega)
      rw [e1]
      refine StillVC.run (StillVC.lenN (hA.ext oh.ext) sl23 ?_)
      refine Br.dec (fun hc => absurd hc (by omega)) (fun c81 => ?_)
      refine RetVC.one rfl ?_
      exact ⟨rfl, oh⟩

set_option maxHeartbeats 4000000 in
set_option maxRecDepth 100000 in
theorem again_spec (t : List UInt8) (h : Heap) (hl : t.length ≤ 140737488351232) (hT : TabH h) :
    SpecR Tryz.prog 3 [.string ⟨⟨t⟩⟩] h fun v h' => v = .bool true ∧ Own h [] h' := by
  refine Spec.enter Tryz.func3 rfl Tryz.ntmps3 (by kernel_rfl) ?_
  have o0 := Own.refl h
  refine CallVC.ret (head_spec _) ?_
  rintro _ h1 ⟨rfl, oa⟩
  have o1 := o0.ext' oa
  by_cases hbig : 2000 < t.length
  · refine StillVC.run (StillVC.lenS rfl str9 ?_)
    refine Br.dec (fun c21 => ?_) (fun hc => absurd (by omega) hc)
    refine RetVC.one rfl ?_
    exact ⟨rfl, o1⟩
  refine StillVC.run (StillVC.lenS rfl str9 ?_)
  refine Br.dec (fun hc => absurd hc (by omega)) (fun c31 => ?_)
  have hG := lexM_G (t := t) (by omega)
  cases hM : lexM t with
  | error y =>
    obtain ⟨e, j⟩ := y
    rw [hM] at hG
    have he : e ≠ 0 := LexR.err_ne hG e j rfl
    refine CallVC.ret (lex_err (by omega) hM _) ?_
    rintro _ h2 ⟨rfl, ob⟩
    have o2 := o1.ext' ob
    refine Br.ndec (fun c40 => ?_) (fun hc => absurd hc (by first | omega | assumption | decide | exact rfl))
    refine RetVC.one rfl ?_
    exact ⟨rfl, o2⟩
  | ok ts =>
    rw [hM] at hG
    obtain ⟨b1, b2⟩ := lexM_bound hM
    obtain ⟨g1, g2, g3⟩ := hG.good t.length t 0 ts (Nat.le_refl _)
    obtain ⟨us, hus, hkeys⟩ := wrs_lex ts 0 g1
    refine CallVC.ret (lex_ok (by omega) hM _) ?_
    rintro _ h2 ⟨u, rfl, ob⟩
    have o2 : Own h [row u 35 4 ts.length (ts.flatMap tokC)] h2 := o1.call ob
    refine Br.ff ?_
    refine CallVC.ret (written_spec ts u _ (o2.rowArrN 0 rfl) (by omega) (fun x hx => ⟨g1 x hx, by have := g3 x hx; omega⟩) (hT.ext o2.ext)) ?_
    rintro _ h3 ⟨rfl, oc⟩
    have o3 := o2.ext' oc
    have hM2 := lexM_eq (t := wrs ts) (by omega) hus
    obtain ⟨c1, c2⟩ := lexM_bound hM2
    refine CallVC.ret (lex_ok (by omega) hM2 _) ?_
    rintro _ h4 ⟨u4, rfl, od⟩
    have o4 := o3.call od
    refine Br.tt ?_
    refine Br.tt ?_
    refine CallVC.ret (alike_spec ts us _ _ _ ((o3.rowArrN 0 rfl).ext od.ext) (od.rowArrN 0 rfl) (by omega)) ?_
    rintro _ h5 ⟨rfl, oe⟩
    have o5 := o4.ext' oe
    refine RetVC.one rfl ?_
    exact ⟨congrArg Value.bool (decide_eq_true hkeys.symm), o5.sel [] rfl⟩

theorem itoa_nat (k : Nat) : Lib.itoa (k : Int) = Lib.decDigits k := by
  unfold Lib.itoa
  rw [if_neg (by omega)]
  simp

theorem span_all {p : UInt8 → Bool} : ∀ (l : List UInt8), (∀ c ∈ l, p c = true) → spanN p l = l.length
  | [], _ => rfl
  | c :: l, h => by
    have ih := span_all l (fun d hd => h d (by simp [hd]))
    unfold spanN at ih ⊢
    rw [List.takeWhile_cons, h c (by simp)]
    simpa using ih

theorem readR_dec (k : Nat) (h : k ≤ 1000000000) : readR (Lib.decDigits k) = .tok 2 (Lib.decDigits k) k (Lib.decDigits k).length := by
  have hd : ∀ c ∈ Lib.decDigits k, digitB c = true := fun c hc => decide_eq_true (dec_digits k c hc)
  have hlen : (Lib.decDigits k).length ≤ 10 := by
    rw [Lib.decDigits_length]
    exact nDigits_le 9 k (by omega)
  have hs := span_all _ hd
  have hs2 := span_all _ (fun c hc => digit_inner (hd c hc))
  have hu := undec_dec k
  cases hl : Lib.decDigits k with
  | nil => exact absurd hl (dec_ne_nil k)
  | cons c r =>
    rw [hl] at hd hs hs2 hu hlen
    have hc := hd c (by simp)
    have hlet : letterB c = false := by
      cases hh : letterB c with
      | false => rfl
      | true => have := (letter_not hh).1; rw [hc] at this; cases this
    rw [readR_digit hlet hc, hs, hs2, if_neg (by omega), List.take_length, hu]

theorem contents_lex (s : List UInt8) (k : Nat) (hs : s.length ≤ 200) (hk : k ≤ 1000000000) :
    LexG ([34] ++ escS s ++ [34] ++ [32] ++ Lib.decDigits k) 0 (.ok [⟨3, s, 0, 0⟩, ⟨2, Lib.decDigits k, k, (escS s).length + 3⟩]) := by
  have e : [34] ++ escS s ++ [34] ++ [32] ++ Lib.decDigits k = 34 :: (escS s ++ 34 :: (32 :: Lib.decDigits k)) := by simp
  rw [e]
  have hR := readR_escS s (32 :: Lib.decDigits k) hs
  have hR2 := readR_dec k hk
  have hd : (34 :: (escS s ++ 34 :: (32 :: Lib.decDigits k))).drop ((escS s).length + 2) = 32 :: Lib.decDigits k := by
    rw [List.drop_succ_cons, List.drop_append, List.drop_of_length_le (by omega), List.nil_append, show (escS s).length + 1 - (escS s).length = 1 by omega, List.drop_succ_cons, List.drop_zero]
  have h2 : LexG (Lib.decDigits k) (0 + ((escS s).length + 2) + 1) (.ok [⟨2, Lib.decDigits k, k, 0 + ((escS s).length + 2) + 1⟩]) :=
    LexG.first hR2 (r := .ok []) (LexG.all (by rw [List.drop_length]; rfl) _)
  have h1 := LexG.first hR (i := 0) (r := .ok [⟨2, Lib.decDigits k, k, 0 + ((escS s).length + 2) + 1⟩]) (by rw [hd]; exact LexG.blank h2)
  rw [show (0 + ((escS s).length + 2) + 1) = (escS s).length + 3 by omega] at h1
  exact h1

set_option maxHeartbeats 4000000 in
set_option maxRecDepth 100000 in
theorem contents_spec (s : List UInt8) (n : Int) (h : Heap) (hl : s.length ≤ 140737488351232) (hn0 : 0 ≤ n) (hn1 : n ≤ 4294967295) (hT : TabH h) :
    SpecR Tryz.prog 4 [.string ⟨⟨s⟩⟩, .int .u32 n] h fun v h' => v = .bool true ∧ Own h [] h' := by
  refine Spec.enter Tryz.func4 rfl Tryz.ntmps4 (by kernel_rfl) ?_
  have o0 := Own.refl h
  refine CallVC.ret (head_spec _) ?_
  rintro _ h1 ⟨rfl, oa⟩
  have o1 := o0.ext' oa
  by_cases hbig : 200 < s.length
  · refine StillVC.run (StillVC.lenS rfl str9 ?_)
    refine Br.dec (fun c21 => ?_) (fun hc => absurd (by omega) hc)
    refine RetVC.one rfl ?_
    exact ⟨rfl, o1⟩
  obtain ⟨k, hk, hkl⟩ : ∃ k : Nat, n % 1000000001 = (k : Int) ∧ k ≤ 1000000000 := ⟨(n % 1000000001).toNat, by omega, by omega⟩
  have hs : s.length ≤ 200 := by omega
  have hM := lexM_eq (t := [34] ++ escS s ++ [34] ++ [32] ++ Lib.decDigits k) (by
    have := escS_le s
    have h2 : (Lib.decDigits k).length ≤ 20 := decDigits_short k (by omega)
    simp; omega) (contents_lex s k hs hkl)
  have hel := escS_le s
  have hdl : (Lib.decDigits k).length ≤ 20 := decDigits_short k (by omega)
  refine StillVC.run (StillVC.lenS rfl str9 ?_)
  refine Br.dec (fun hc => absurd hc (by omega)) (fun c31 => ?_)
  refine StillVC.run (StillVC.convI rfl int30 int3 ?_)
  refine Ar.i64 (by omega) (by omega) ?_
  refine StillVC.run (StillVC.remE rfl rfl (by omega) (by omega) ?_)
  refine StillVC.run (StillVC.buildK st33 ?_)
  refine And.intro rfl ?_
  refine And.intro rfl ?_
  refine CallVC.ret (text_spec 1 0 s _ (by omega) (hT.ext o1.ext)) ?_
  rintro _ h2 ⟨rfl, ob⟩
  have o2 := o1.ext' ob
  rw [valT_text hs]
  refine StillVC.run (StillVC.buildK st33 ?_)
  refine And.intro rfl ?_
  refine And.intro rfl ?_
  rw [hk]
  refine CallVC.ret (text_spec 2 k [] _ (by simp) (hT.ext o2.ext)) ?_
  rintro _ h3 ⟨rfl, oc⟩
  have o3 := o2.ext' oc
  have hvt : valT 2 k [] = Lib.decDigits k := by
    unfold valT
    rw [if_neg (by simp only [Decidable.not_not]; exact .inr (.inr (.inl ⟨rfl, by omega, by omega, rfl⟩))), if_neg (by decide), if_pos rfl, itoa_nat]
  rw [hvt]
  refine StillVC.run (StillVC.strAdd rfl rfl (by first | omega | (simp; omega)) ?_)
  refine StillVC.run (StillVC.strAdd rfl rfl (by first | omega | (simp; omega)) ?_)
  refine CallVC.ret (lex_ok (by simp; omega) hM _) ?_
  rintro _ h4 ⟨u, rfl, od⟩
  have o4 : Own h [row u 35 4 2 ([⟨3, s, 0, 0⟩, ⟨2, Lib.decDigits k, k, (escS s).length + 3⟩].flatMap tokC)] h4 := o3.call od
  have p0 : ([⟨3, s, 0, 0⟩, ⟨2, Lib.decDigits k, k, (escS s).length + 3⟩] : List Tok)[(0 : Int).toNat]? = some ⟨3, s, 0, 0⟩ := rfl
  have p1 : ([⟨3, s, 0, 0⟩, ⟨2, Lib.decDigits k, k, (escS s).length + 3⟩] : List Tok)[(1 : Int).toNat]? = some ⟨2, Lib.decDigits k, k, (escS s).length + 3⟩ := rfl
  have hql : ([34] ++ escS s ++ [34]).length = (escS s).length + 2 := by simp
  refine Br.ff ?_
  refine StillVC.run (StillVC.lenN (o4.rowArrN 0 rfl) sl23 ?_)
  refine Br.ff ?_
  refine Br.tt ?_
  refine StillVC.run (StillVC.idxN sl23 ty35 (o4.rowArrN 0 rfl) rfl (by omega) (by omega) ?_)
  refine StillVC.run (StillVC.loadFT ty35 (o4.rowArrN 0 rfl) (fun _ => rfl) (by decide) rfl (by assumption) ?_)
  refine StillVC.run (StillVC.buildK st35 ?_)
  refine And.intro rfl ?_
  refine And.intro rfl ?_
  refine StillVC.run (StillVC.eqS pl35 rfl rfl rfl rfl ?_)
  refine Br.ttE (by first | omega | (simp; done)) ?_
  refine StillVC.run (StillVC.idxN sl23 ty35 (o4.rowArrN 0 rfl) rfl (by omega) (by omega) ?_)
  refine StillVC.run (StillVC.loadFT ty35 (o4.rowArrN 0 rfl) (fun _ => rfl) (by decide) rfl (by assumption) ?_)
  refine StillVC.run (StillVC.lenS rfl str9 ?_)
  refine Ar.i64 (by omega) (by omega) ?_
  refine StillVC.run (StillVC.buildK st35 ?_)
  refine And.intro rfl ?_
  refine And.intro rfl ?_
  refine And.intro rfl ?_
  refine And.intro rfl ?_
  refine StillVC.run (StillVC.eqS pl35 rfl rfl rfl rfl ?_)
  refine RetVC.one rfl ?_
  refine ⟨congrArg Value.bool ?_, o4.sel [] rfl⟩
  simp
  omega

end Go.Proofs.YtofbiladpmcjgaaGreatDoor
