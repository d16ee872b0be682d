/-
  The first error of a parse, in plain Lean: it hangs on what stands up to its token alone. The walk of ParserFirstError.
-/
import Derived.Test.YtnmfanjhepepbaaDoorStructs
import Derived.Test.YtnmfanjhepepbaaDoorMJo
set_option linter.all false
/- The first error of a parse, in plain Lean: it hangs on what stands up to its token alone. -/
namespace Go.Proofs.YtnmfanjhepepbaaDoor
open Go

theorem lexGo_errs : ∀ (f : Nat) (l : List UInt8) (i k : Nat) (e : Int) (j : Nat), lexGo f l i k = .error (e, j) → e = 3 ∨ e = 5 ∨ e = 6 ∨ e = 7
  | 0, _, _, _, _, _, h => by cases h
  | _ + 1, [], _, _, _, _, h => by cases h
  | f + 1, c :: r, i, k, e, j, h => by
    cases hr : readR (c :: r) with
    | err e' =>
      rw [lexGo_err (by simp) hr] at h
      cases h
      exact readR_err hr
    | none => exact absurd hr (readR_some _)
    | tok kd x n len =>
      by_cases hk : k = 5000
      · subst hk
        rw [lexGo_full (by simp) hr] at h
        cases h
        exact .inl rfl
      · have hE := lexGo_tok (f := f) (i := i) (k := k) (by simp) hr hk []
        have ih := lexGo_errs f ((c :: r).drop (len + gapF false ((c :: r).drop len))) (i + (len + gapF false ((c :: r).drop len))) (k + 1)
        rw [h] at hE
        generalize lexGo f ((c :: r).drop (len + gapF false ((c :: r).drop len))) (i + (len + gapF false ((c :: r).drop len))) (k + 1) = G at *
        cases G with
        | error y =>
          simp only [consR, Except.error.injEq] at hE
          subst hE
          exact ih e j rfl
        | ok us => cases hE

theorem lexM_errs {t : List UInt8} {e : Int} {j : Nat} (h : lexM t = .error (e, j)) : e = 3 ∨ e = 5 ∨ e = 6 ∨ e = 7 := lexGo_errs _ _ _ _ _ _ h

theorem LexG.tot : ∀ (n : Nat) (l : List UInt8) (i : Nat), l.length ≤ n → ∃ r, LexG l i r
  | 0, l, i, h => ⟨_, LexG.all (by have := gapF_le false l; omega) i⟩
  | n + 1, l, i, h => by
    have hg := gapF_le false l
    by_cases hlt : gapF false l < l.length
    · cases hR : readR (l.drop (gapF false l)) with
      | err e => exact ⟨_, LexG.stop hlt hR⟩
      | none =>
        cases hd : l.drop (gapF false l) with
        | nil => have := congrArg List.length hd; simp at this; omega
        | cons c q => rw [hd] at hR; exact absurd hR (readR_some _)
      | tok kd x m len =>
        have hlen := (readR_len hR).1
        obtain ⟨r, hr⟩ := LexG.tot n (l.drop (gapF false l + len)) (i + gapF false l + len) (by rw [List.length_drop]; omega)
        exact ⟨_, LexG.step hlt hR hr⟩
    · exact ⟨_, LexG.all (by omega) i⟩

/-- An error that is not 'ended too early' stands at a token, and stays when what follows the token is another. -/
theorem itemsA_at (z : Nat) : ∀ (f : Nat) (acc : List It) (ts : List Tok) (e : Int) (o : Nat), ts.length < f → LW ts → itemsA z f acc ts = .error (e, o) → e ≠ 7 →
    ∃ p t r, ts = p ++ t :: r ∧ o = t.off ∧ ∀ (z' f' : Nat) (acc' : List It) (r' : List Tok), acc'.length = acc.length → (p ++ t :: r').length < f' → TWs r' → itemsA z' f' acc' (p ++ t :: r') = .error (e, o)
  | 0, _, _, _, _, h, _, _, _ => absurd h (Nat.not_lt_zero _)
  | f + 1, acc, [], e, o, _, _, h, _ => by cases h
  | f + 1, acc, t :: q, e, o, h1, hw, h, he => by
    simp only [List.length_cons] at h1
    by_cases hfull : acc.length = 200
    · rw [itemsA_full hfull] at h
      cases h
      refine ⟨[], t, q, rfl, rfl, fun z' f' acc' r' ha hf _ => ?_⟩
      cases f' with
      | zero => simp at hf
      | succ f' => exact itemsA_full (by omega)
    · cases hp : itemP z (t :: q) with
      | error y =>
        obtain ⟨e1, o1⟩ := y
        rw [itemsA_err hfull hp] at h
        cases h
        rcases item_err (Q := Eq) hw hp with ⟨he7, _⟩ | ⟨_, p, t1, r, e1, ho, k⟩
        · exact absurd he7 he
        · refine ⟨p, t1, r, e1, ho, fun z' f' acc' r' ha hf hr => ?_⟩
          rw [e1] at hw
          have := k z' p t1 r' hw.left.1 (hw.right.1 t1 (by simp)) hr (TE.refl (fun _ => rfl) p) ⟨rfl, rfl, rfl, rfl⟩
          rw [ho]
          cases f' with
          | zero => simp at hf
          | succ f' =>
            cases hpq : p ++ t1 :: r' with
            | nil => simp at hpq
            | cons a b => rw [hpq] at this; exact itemsA_err (by omega) this
      | ok y =>
        obtain ⟨x, r⟩ := y
        rw [itemsA_ok hfull hp] at h
        have hlt := itemP_lt hp
        simp only [List.length_cons] at hlt
        obtain ⟨p1, hne, e1, k⟩ := item_firm (Q := Eq) hw hp
        rw [e1] at hw
        obtain ⟨p, t1, r1, rfl, ho, k2⟩ := itemsA_at z f (acc ++ [x]) r e o (by omega) hw.right h he
        refine ⟨p1 ++ p, t1, r1, by rw [e1]; simp, ho, fun z' f' acc' r' ha hf hr => ?_⟩
        have hr2 : TWs (p ++ t1 :: r') := TWs.append hw.right.left.1 (TWs.cons hr (hw.right.right.1 t1 (by simp)))
        obtain ⟨x', ex, _⟩ := k z' p1 (p ++ t1 :: r') hw.left.1 hr2 (TE.refl (fun _ => rfl) p1)
        cases f' with
        | zero => simp at hf
        | succ f' =>
          have hlt' := itemP_lt ex
          rw [List.append_assoc] at hf ⊢
          cases hpq : p1 ++ (p ++ t1 :: r') with
          | nil => simp at hpq
          | cons a b =>
            have hlb : (p1 ++ (p ++ t1 :: r')).length = b.length + 1 := by rw [hpq]; rfl
            rw [hpq] at ex
            rw [itemsA_ok (by omega : acc'.length ≠ 200) ex]
            exact k2 z' f' (acc' ++ [x']) r' (by simp [ha]) (by omega) hr

/-- What stands before the token of a first error is a program or ends too early. -/
theorem itemsA_cut (z z' : Nat) : ∀ (f f' : Nat) (acc : List It) (p : List Tok) (t : Tok) (r : List Tok) (e : Int), (p ++ t :: r).length < f → p.length < f' → LW (p ++ t :: r) → itemsA z f acc (p ++ t :: r) = .error (e, t.off) → e ≠ 3 →
    (∃ xs, itemsA z' f' acc p = .ok xs) ∨ itemsA z' f' acc p = .error (7, z')
  | 0, _, _, _, _, _, _, h, _, _, _, _ => absurd h (Nat.not_lt_zero _)
  | _ + 1, 0, _, _, _, _, _, _, h, _, _, _ => absurd h (Nat.not_lt_zero _)
  | f + 1, f' + 1, acc, [], t, r, e, _, _, _, _, _ => .inl ⟨acc, rfl⟩
  | f + 1, f' + 1, acc, a :: p, t, r, e, h1, h2, hw, h, he => by
    simp only [List.cons_append, List.length_cons] at h1 h2
    have hne : ∀ p1 t1 r1, a :: p = p1 ++ t1 :: r1 → t1.off ≠ t.off := by
      intro p1 t1 r1 e1 eo
      rw [e1] at hw
      have := hw.2
      rw [List.pairwise_append] at this
      exact this.2.2 t1 (by simp) t (by simp) eo
    by_cases hfull : acc.length = 200
    · rw [List.cons_append, itemsA_full hfull] at h
      injection h with h
      injection h with h _
      exact absurd h.symm he
    · cases hp : itemP z' (a :: p) with
      | error y =>
        obtain ⟨e1, o1⟩ := y
        rw [itemsA_err hfull hp]
        rcases item_err (Q := Eq) hw.left hp with ⟨rfl, rfl, _⟩ | ⟨_, p1, t1, r1, e2, ho, k⟩
        · exact .inr rfl
        · have hw1 := hw.left
          rw [e2] at hw1
          have := k z p1 t1 (r1 ++ t :: r) hw1.left.1 (hw1.right.1 t1 (by simp)) (TWs.append hw1.right.tail.1 hw.right.1) (TE.refl (fun _ => rfl) p1) ⟨rfl, rfl, rfl, rfl⟩
          have e3 : p1 ++ t1 :: (r1 ++ t :: r) = a :: (p ++ t :: r) := by rw [← List.cons_append, ← List.append_assoc, ← e2]; rfl
          rw [e3] at this
          rw [List.cons_append, itemsA_err hfull this] at h
          injection h with h
          injection h with _ h
          exact absurd h (hne p1 t1 r1 e2)
      | ok y =>
        obtain ⟨x, r1⟩ := y
        rw [itemsA_ok hfull hp]
        have hlt := itemP_lt hp
        simp only [List.length_cons] at hlt
        obtain ⟨p1, hne1, e1, k⟩ := item_firm (Q := Eq) hw.left hp
        have hw1 := hw.left
        rw [e1] at hw1
        obtain ⟨x', ex, hx⟩ := k z p1 (r1 ++ t :: r) hw1.left.1 (TWs.append hw1.right.1 hw.right.1) (TE.refl (fun _ => rfl) p1)
        obtain rfl := itQ_eq hx
        have e3 : p1 ++ (r1 ++ t :: r) = a :: (p ++ t :: r) := by rw [← List.append_assoc, ← e1]; rfl
        rw [e3] at ex
        rw [List.cons_append, itemsA_ok hfull ex] at h
        have hwr : LW (r1 ++ t :: r) := by
          have hw2 := hw
          rw [e1, List.append_assoc] at hw2
          exact hw2.right
        have hl3 := congrArg List.length e3
        have hp1 : 0 < p1.length := List.length_pos_iff.2 hne1
        simp only [List.length_append, List.length_cons] at hl3 h1
        exact itemsA_cut z z' f f' (acc ++ [x]) r1 t r e (by simp only [List.length_append, List.length_cons]; omega) (by omega) hwr h he

/-- Where the tokens behind one begin. -/
def endOf (n : Nat) (r : List Tok) : Nat := match r.head? with
  | some t => t.off
  | none => n

theorem cut_end {s : List UInt8} {p r : List Tok} {t : Tok} (hL : LexG s 0 (.ok (p ++ t :: r))) : LexG (s.take (endOf s.length r)) 0 (.ok (p ++ [t])) ∧ t.off < endOf s.length r ∧ endOf s.length r ≤ s.length := by
  cases r with
  | nil =>
    obtain ⟨_, b, _⟩ := LexG.wf _ _ _ _ (Nat.le_refl _) hL
    refine ⟨by simpa [endOf, List.take_length] using hL, ?_, Nat.le_refl _⟩
    have := b t (by simp)
    simp only [endOf, List.head?_nil]
    omega
  | cons t' r =>
    have hL' : LexG s 0 (.ok ((p ++ [t]) ++ t' :: r)) := by simpa using hL
    have := LexG.cut _ _ _ _ _ _ (Nat.le_refl _) hL'
    obtain ⟨_, b, _⟩ := LexG.wf _ _ _ _ (Nat.le_refl _) this
    obtain ⟨_, b2, _⟩ := LexG.wf _ _ _ _ (Nat.le_refl _) hL
    have h1 := b t (by simp)
    have h2 := b2 t' (by simp)
    simp only [List.length_take] at h1
    refine ⟨by simpa [endOf] using this, ?_, ?_⟩ <;> simp only [endOf, List.head?_cons] <;> omega

theorem first_plain {s : List UInt8} {at_ : Nat} (hs : s.length ≤ 2000) (hP : parseM s = .error (4, at_)) :
    ∃ l p t r, lexM s = .ok l ∧ l = p ++ t :: r ∧ LW l ∧ l.length ≤ 5000 ∧ at_ = t.off ∧ t.off < endOf s.length r ∧ endOf s.length r ≤ s.length ∧ ((∃ xs, parseM (s.take t.off) = .ok xs) ∨ parseM (s.take t.off) = .error (7, t.off)) ∧
      ∀ (o : List UInt8) us, lexM (s.take (endOf s.length r) ++ 10 :: o) = .ok us → parseM (s.take (endOf s.length r) ++ 10 :: o) = .error (4, t.off) := by
  cases hL : lexM s with
  | error y =>
    obtain ⟨e, i⟩ := y
    have := lexM_errs hL
    unfold parseM at hP
    rw [hL] at hP
    cases hP
    omega
  | ok l =>
    have g := lexM_okG hL
    obtain ⟨w, b, c⟩ := LexG.wf _ _ _ _ (Nat.le_refl _) g
    have hl5 := (lexM_props.2 l hL).1
    unfold parseM at hP
    rw [hL] at hP
    simp only at hP
    obtain ⟨p, t, r, rfl, rfl, k⟩ := itemsA_at s.length (l.length + 1) [] l 4 at_ (by omega) w hP (by decide)
    obtain ⟨c1, c2, c3⟩ := cut_end g
    refine ⟨_, p, t, r, rfl, rfl, w, hl5, rfl, c2, c3, ?_, fun o us hu => ?_⟩
    · have gc := LexG.cut _ _ _ _ _ _ (Nat.le_refl _) g
      simp only [Nat.sub_zero] at gc
      have hcl : (s.take t.off).length = t.off := by rw [List.length_take]; have := b t (by simp); omega
      have hM := lexM_of (by simp only [List.length_append] at hl5; omega) gc
      unfold parseM
      rw [hM]
      simp only
      rw [hcl]
      exact itemsA_cut s.length t.off _ _ [] p t r 4 (by omega) (by omega) w hP (by decide)
    · obtain ⟨R, hR⟩ := LexG.tot o.length o 0 (Nat.le_refl _)
      have hj := LexG.join_nl c1 hR
      have hg := lexM_okG hu
      have hd := LexR.det hj hg
      obtain ⟨w2, _, _⟩ := LexG.wf _ _ _ _ (Nat.le_refl _) hg
      cases R with
      | error y => simp [appE, shiftE] at hd
      | ok rs =>
        simp only [appE, shiftE, Except.ok.injEq] at hd
        rw [List.append_assoc] at hd
        unfold parseM
        rw [hu]
        simp only
        rw [← hd] at w2 ⊢
        exact k _ _ [] _ rfl (by simp) w2.right.tail.1

end Go.Proofs.YtnmfanjhepepbaaDoor

/- The walk of ParserFirstError. -/
namespace Go.Proofs.YtnmfanjhepepbaaDoor
open Go

/-- The lexer, told apart. -/
theorem lex_cases {t : List UInt8} (hl : t.length ≤ 20000) (h : Heap) : SpecR Tryd.prog 8 [.string ⟨⟨t⟩⟩] h fun v h' =>
    (∃ e i, lexM t = .error (e, i) ∧ e ≠ 0 ∧ v = .tuple ⟨[.slice none 0 0, .int .i64 e, .int .i64 (i : Nat)]⟩ ∧ Own h [] h') ∨
    (∃ l u, lexM t = .ok l ∧ v = .tuple ⟨[u, .int .i64 0, .int .i64 0]⟩ ∧ Own h [row u 33 4 l.length (l.flatMap tokC)] h') := by
  refine (lex_spec t h (by omega)).mono fun v h' hv => ?_
  unfold LexPost at hv
  rw [if_neg (by omega)] at hv
  cases hL : lexM t with
  | error y =>
    obtain ⟨e, i⟩ := y
    rw [hL] at hv
    exact .inl ⟨e, i, rfl, lexM_props.1 e i hL, hv.1, hv.2⟩
  | ok l =>
    rw [hL] at hv
    obtain ⟨u, h1, h2⟩ := hv
    exact .inr ⟨l, u, rfl, h1, h2⟩

set_option maxHeartbeats 8000000 in
set_option maxRecDepth 100000 in
theorem first_spec (s t : List UInt8) (h : Heap) (hs : s.length ≤ 9223372036854775807) (ht : t.length ≤ 9223372036854775807) (hW : WordsH h) : SpecR Tryd.prog 3 [.string ⟨⟨s⟩⟩, .string ⟨⟨t⟩⟩] h fun v h' => v = .bool true ∧ Own h [] h' := by
  refine Spec.enter Tryd.func3 rfl Tryd.ntmps3 (by kernel_rfl) ?_
  have o0 := Own.refl h
  refine CallVC.ret (head_spec _ hW) ?_
  rintro _ h1 ⟨rfl, oc⟩
  have o1 := oc.thenE (by assumption)
  clear oc
  by_cases hbig : 2000 < s.length ∨ 2000 < t.length
  · rcases hbig with hbig | hbig
    · refine StillVC.run (StillVC.lenS rfl str9 ?_)
      refine Br.dec (fun c21 => ?_) (fun hc => absurd (by omega) hc)
      refine Br.tt ?_
      refine RetVC.one rfl ?_
      exact ⟨rfl, Own.sel (by assumption) [] rfl⟩
    · by_cases h2 : 2000 < s.length
      · refine StillVC.run (StillVC.lenS rfl str9 ?_)
        refine Br.dec (fun c41 => ?_) (fun hc => absurd (by omega) hc)
        refine Br.tt ?_
        refine RetVC.one rfl ?_
        exact ⟨rfl, Own.sel (by assumption) [] rfl⟩
      · refine StillVC.run (StillVC.lenS rfl str9 ?_)
        refine Br.dec (fun hc => absurd hc (by omega)) (fun c61 => ?_)
        refine StillVC.run (StillVC.lenS rfl str9 ?_)
        refine Br.dec (fun c63 => ?_) (fun hc => absurd (by omega) hc)
        refine RetVC.one rfl ?_
        exact ⟨rfl, Own.sel (by assumption) [] rfl⟩
  have hs2 : s.length ≤ 2000 := by omega
  have ht2 : t.length ≤ 2000 := by omega
  refine StillVC.run (StillVC.lenS rfl str9 ?_)
  refine Br.dec (fun hc => absurd hc (by omega)) (fun c101 => ?_)
  refine StillVC.run (StillVC.lenS rfl str9 ?_)
  refine Br.dec (fun hc => absurd hc (by omega)) (fun c103 => ?_)
  refine CallVC.ret (parse_cases (by omega) _ (hW.ext o1.ext)) ?_
  rintro _ h2 (⟨e, i, hM, hne, rfl, oc⟩ | ⟨xs, ts, ua, uc, I, hM, hL, hI, hlen, rfl, hp, oc⟩)
  · have o2 := oc.thenE (by assumption)
    clear oc
    (refine RunVC.alloc o2 ty25 ?_; intro b120 m120 o120)
    (refine RunVC.storeL o120 0 rfl ty25 rfl (by decide) (And.intro ⟨rfl, rfl⟩ ?_); intro m121 o121)
    refine CallVC.ret (lex_cases (by omega) _) ?_
    rintro _ h3 (⟨e2, i2, hL2, hne2, rfl, oc⟩ | ⟨l, u, hL2, rfl, oc⟩)
    · have o3 := oc.thenE (by assumption)
      clear oc
      have he4 := lexM_errs hL2
      obtain rfl : e2 = e := by
        unfold parseM at hM
        rw [hL2] at hM
        cases hM
        rfl
      refine Br.ndec (fun c140 => ?_) (fun hc => absurd hc (by first | omega | assumption | decide | exact rfl))
      refine RetVC.one rfl ?_
      exact ⟨rfl, Own.sel (by assumption) [] rfl⟩
    · have o3 := Own.call (by assumption) oc
      simp only [List.cons_append, List.nil_append] at o3
      clear oc
      obtain ⟨ua, uc, rfl⟩ := o3.rowIs 1 rfl
      by_cases he : e = 4
      · subst he
        obtain ⟨l', p, tk, r, hL', rfl, hw, hl5, rfl, c2, c3, hcut, hch⟩ := first_plain hs2 hM
        rw [hL2] at hL'
        cases hL'
        have hk : (p ++ tk :: r)[p.length]? = some tk := by simp
        have hkl : p.length < (p ++ tk :: r).length := by simp
        have hnext : ∀ x, (p ++ tk :: r)[p.length + 1]? = some x → endOf s.length r = x.off := fun x hx => by
          rw [List.getElem?_append_right (by omega), Nat.add_sub_cancel_left] at hx
          cases r with
          | nil => simp at hx
          | cons y r => simp at hx; subst hx; rfl
        have hlast : (p ++ tk :: r).length ≤ p.length + 1 → endOf s.length r = s.length := fun hx => by
          cases r with
          | nil => rfl
          | cons y r => simp at hx
        generalize endOf s.length r = E at *
        generalize p ++ tk :: r = l at *
        generalize p.length = k at *
        refine Br.ff ?_
        refine LoopVC.intro [12, 13, 49, 50, 51, 52, 53, 54, 55, 56, 57, 58, 59, 60, 61, 62, 63, 64, 65, 66, 67, 68, 69, 70, 71, 72, 73, 74] [12, 13] (fun vs hh => ∃ (n : Nat), n ≤ l.length ∧ vs = [.int .i64 (if n ≤ k then -1 else (E : Int)), .int .i64 n] ∧ Own h [row (.slice ua l.length uc) 33 4 l.length (l.flatMap tokC)] hh) (fun vs _ => match vs with | [_, .int _ n] => l.length - n.toNat | _ => 0) ?_ ?_
        · exact ⟨0, by omega, by rw [if_pos (by omega)]; rfl, Own.sel (by assumption) [1] rfl⟩
        · rintro vs junk hh ⟨n, hn, rfl, oh⟩
          by_cases hlt : n < l.length
          · obtain ⟨y, hy⟩ := getx hlt
            by_cases hnk : n = k
            · subst hnk
              rw [hk] at hy
              cases hy
              by_cases hnl : n + 1 < l.length
              · obtain ⟨x, hx⟩ := getx hnl
                have hE := hnext x hx
                refine StillVC.run (StillVC.lenV rfl sl29 ?_)
                refine Br.dec (fun c221 => ?_) (fun hc => absurd (by omega) hc)
                refine StillVC.run (StillVC.idxN sl29 ty33 (oh.rowArrN 0 rfl) rfl (by omega) (by omega) ?_)
                refine StillVC.run (StillVC.fieldAdr (oh.rowArrN 0 rfl) (by omega) st33 rfl rfl rfl ?_)
                refine StillVC.run (StillVC.loadFF (oh.rowArrN 0 rfl) ty3 (fun _ => rfl) rfl (by assumption) rfl ?_)
                refine Br.dec (fun c225 => ?_) (fun hc => absurd (by omega) hc)
                refine StillVC.run (StillVC.lenS rfl str9 ?_)
                refine Ar.i64 (by omega) (by omega) ?_
                refine StillVC.run (StillVC.lenV rfl sl29 ?_)
                refine Br.dec (fun c228 => ?_) (fun hc => absurd (by omega) hc)
                refine Ar.i64 (by omega) (by omega) ?_
                refine StillVC.run (StillVC.idxN sl29 ty33 (oh.rowArrN 0 rfl) rfl (by omega) (by omega) ?_)
                refine StillVC.run (StillVC.fieldAdr (oh.rowArrN 0 rfl) (by omega) st33 rfl rfl rfl ?_)
                refine StillVC.run (StillVC.loadFF (oh.rowArrN 0 rfl) ty3 (fun _ => rfl) rfl (by assumption) rfl ?_)
                refine Ar.i64 (by omega) (by omega) ?_
                refine ⟨rfl, ?_⟩
                exact ⟨⟨n + 1, by omega, by rw [if_neg (by omega), hE]; rfl, Own.sel (by assumption) [0] rfl⟩, by simp; omega⟩
              · have hE := hlast (by omega)
                refine StillVC.run (StillVC.lenV rfl sl29 ?_)
                refine Br.dec (fun c261 => ?_) (fun hc => absurd (by omega) hc)
                refine StillVC.run (StillVC.idxN sl29 ty33 (oh.rowArrN 0 rfl) rfl (by omega) (by omega) ?_)
                refine StillVC.run (StillVC.fieldAdr (oh.rowArrN 0 rfl) (by omega) st33 rfl rfl rfl ?_)
                refine StillVC.run (StillVC.loadFF (oh.rowArrN 0 rfl) ty3 (fun _ => rfl) rfl (by assumption) rfl ?_)
                refine Br.dec (fun c265 => ?_) (fun hc => absurd (by omega) hc)
                refine StillVC.run (StillVC.lenS rfl str9 ?_)
                refine Ar.i64 (by omega) (by omega) ?_
                refine StillVC.run (StillVC.lenV rfl sl29 ?_)
                refine Br.dec (fun hc => absurd hc (by omega)) (fun c268 => ?_)
                refine Ar.i64 (by omega) (by omega) ?_
                refine ⟨rfl, ?_⟩
                exact ⟨⟨n + 1, by omega, by rw [if_neg (by omega), hE]; rfl, Own.sel (by assumption) [0] rfl⟩, by simp; omega⟩
            · have hne : y.off ≠ tk.off := by
                obtain ⟨_, e1⟩ := List.getElem?_eq_some_iff.1 hy
                obtain ⟨_, e2⟩ := List.getElem?_eq_some_iff.1 hk
                rcases Nat.lt_or_gt_of_ne hnk with hq | hq
                · have hp := List.pairwise_iff_getElem.1 hw.2 n k (by omega) hkl hq
                  rw [e1, e2] at hp
                  exact hp
                · have hp := List.pairwise_iff_getElem.1 hw.2 k n hkl (by omega) hq
                  rw [e1, e2] at hp
                  exact fun e => hp e.symm
              have hE : (if n ≤ k then -1 else (E : Int)) = if n + 1 ≤ k then -1 else (E : Int) := by
                by_cases hq : n < k
                · rw [if_pos (by omega), if_pos (by omega)]
                · rw [if_neg (by omega), if_neg (by omega)]
              refine StillVC.run (StillVC.lenV rfl sl29 ?_)
              refine Br.dec (fun c301 => ?_) (fun hc => absurd (by omega) hc)
              refine StillVC.run (StillVC.idxN sl29 ty33 (oh.rowArrN 0 rfl) rfl (by omega) (by omega) ?_)
              refine StillVC.run (StillVC.fieldAdr (oh.rowArrN 0 rfl) (by omega) st33 rfl rfl rfl ?_)
              refine StillVC.run (StillVC.loadFF (oh.rowArrN 0 rfl) ty3 (fun _ => rfl) rfl (by assumption) rfl ?_)
              refine Br.dec (fun hc => absurd hc (by omega)) (fun c305 => ?_)
              refine Ar.i64 (by omega) (by omega) ?_
              refine ⟨rfl, ?_⟩
              exact ⟨⟨n + 1, by omega, by rw [hE]; rfl, Own.sel (by assumption) [0] rfl⟩, by simp; omega⟩
          · rw [if_neg (by omega)]
            refine StillVC.run (StillVC.lenV rfl sl29 ?_)
            refine Br.dec (fun hc => absurd hc (by omega)) (fun c401 => ?_)
            refine Br.dec (fun hc => absurd hc (by omega)) (fun c402 => ?_)
            refine Br.dec (fun hc => absurd hc (by omega)) (fun c403 => ?_)
            refine StillVC.run (StillVC.lenS rfl str9 ?_)
            refine Br.dec (fun hc => absurd hc (by omega)) (fun c405 => ?_)
            refine StillVC.run (StillVC.sliceS str9 rfl rfl ⟨_, rfl⟩ (by omega) (by omega) (by omega) ?_)
            have et : List.drop (Int.toNat 0) (List.take (tk.off : Int).toNat s) = s.take tk.off := by simp
            rw [et]
            refine CallVC.ret (parse_cases (by rw [List.length_take]; omega) _ (hW.ext oh.ext)) ?_
            have hc7 : ∀ e i, parseM (s.take tk.off) = .error (e, i) → e = 7 ∧ i = tk.off := fun e i hx => by
              rcases hcut with ⟨xs, hc⟩ | hc
              · rw [hc] at hx; cases hx
              · rw [hc] at hx; cases hx; exact ⟨rfl, rfl⟩
            have ee : List.drop (Int.toNat 0) (List.take (E : Int).toNat s) ++ [10] ++ t = s.take E ++ 10 :: t := by simp
            have hlE : (s.take E ++ 10 :: t).length ≤ 4001 := by simp; omega
            rintro _ h5 (⟨e3, i3, hM3, hne3, rfl, oc⟩ | ⟨ys, ts3, wa, wc, J, hM3, hL3, hI3, hlen3, rfl, hp3, oc⟩)
            · obtain ⟨rfl, rfl⟩ := hc7 _ _ hM3
              have o5 := oc.thenE oh
              clear oc
              (refine RunVC.alloc o5 ty25 ?_; intro b440 m440 o440)
              (refine RunVC.storeL o440 1 rfl ty25 rfl (by decide) (And.intro ⟨rfl, rfl⟩ ?_); intro m441 o441)
              refine Br.tt ?_
              refine Br.ff ?_
              refine Br.ndec (fun hc => absurd (by first | omega | assumption | decide | exact rfl) hc) (fun c442 => ?_)
              refine StillVC.run (StillVC.sliceS str9 rfl rfl ⟨_, rfl⟩ (by omega) (by omega) (by omega) ?_)
              refine StillVC.run (StillVC.strAdd rfl rfl (by first | omega | (simp; omega)) ?_)
              refine StillVC.run (StillVC.strAdd rfl rfl (by first | omega | (simp; omega)) ?_)
              rw [ee]
              refine CallVC.ret (lex_cases (by omega) _) ?_
              rintro _ h6 (⟨e6, i6, hL6, hne6, rfl, oc⟩ | ⟨l6, u6, hL6, rfl, oc⟩)
              · have o6 := oc.thenE (by assumption)
                clear oc
                refine CallVC.ret (parse_cases (by omega) _ (hW.ext (Own.ext (h := h6) (by assumption)))) ?_
                rintro _ h7 (⟨e7, i7, hM7, hne7, rfl, oc⟩ | ⟨zs, ts7, xa, xc, K, hM7, hL7, hI7, hlen7, rfl, hp7, oc⟩)
                · have o7 := oc.thenE (by assumption)
                  clear oc
                  (refine RunVC.alloc o7 ty25 ?_; intro b480 m480 o480)
                  (refine RunVC.storeL o480 2 rfl ty25 rfl (by decide) (And.intro ⟨rfl, rfl⟩ ?_); intro m481 o481)
                  refine Br.tt ?_
                  refine Br.ndec (fun c482 => ?_) (fun hc => absurd hc (by first | omega | assumption | decide | exact rfl))
                  refine RetVC.one rfl ?_
                  exact ⟨by simp, Own.sel (by assumption) [] rfl⟩
                · have o7 := Own.call (by assumption) oc
                  clear oc
                  (refine RunVC.alloc o7 ty25 ?_; intro b500 m500 o500)
                  (refine RunVC.storeL o500 3 rfl ty25 rfl (by decide) (And.intro ⟨rfl, rfl⟩ ?_); intro m501 o501)
                  refine Br.tt ?_
                  refine Br.ndec (fun c502 => ?_) (fun hc => absurd hc (by first | omega | assumption | decide | exact rfl))
                  refine RetVC.one rfl ?_
                  exact ⟨by simp, Own.sel (by assumption) [] rfl⟩
              · have o6 := Own.call (by assumption) oc
                clear oc
                have hP := hch t l6 hL6
                refine CallVC.ret (parse_cases (by omega) _ (hW.ext (Own.ext (h := h6) (by assumption)))) ?_
                rintro _ h7 (⟨e7, i7, hM7, hne7, rfl, oc⟩ | ⟨zs, ts7, xa, xc, K, hM7, _⟩)
                · rw [hP] at hM7
                  cases hM7
                  have o7 := oc.thenE (by assumption)
                  clear oc
                  (refine RunVC.alloc o7 ty25 ?_; intro b540 m540 o540)
                  (refine RunVC.storeL o540 3 rfl ty25 rfl (by decide) (And.intro ⟨rfl, rfl⟩ ?_); intro m541 o541)
                  refine Br.tt ?_
                  refine Br.ff ?_
                  refine Br.tt ?_
                  refine RetVC.one rfl ?_
                  exact ⟨by simp, Own.sel (by assumption) [] rfl⟩
                · rw [hP] at hM7
                  cases hM7
            · have o5 := Own.call oh oc
              simp only [List.cons_append, List.nil_append] at o5
              clear oc
              (refine RunVC.alloc o5 ty25 ?_; intro b600 m600 o600)
              (refine RunVC.storeL o600 2 rfl ty25 rfl (by decide) (And.intro ⟨rfl, rfl⟩ ?_); intro m601 o601)
              refine Br.ff ?_
              refine Br.ff ?_
              refine StillVC.run (StillVC.sliceS str9 rfl rfl ⟨_, rfl⟩ (by omega) (by omega) (by omega) ?_)
              refine StillVC.run (StillVC.strAdd rfl rfl (by first | omega | (simp; omega)) ?_)
              refine StillVC.run (StillVC.strAdd rfl rfl (by first | omega | (simp; omega)) ?_)
              rw [ee]
              refine CallVC.ret (lex_cases (by omega) _) ?_
              rintro _ h6 (⟨e6, i6, hL6, hne6, rfl, oc⟩ | ⟨l6, u6, hL6, rfl, oc⟩)
              · have o6 := oc.thenE (by assumption)
                clear oc
                refine CallVC.ret (parse_cases (by omega) _ (hW.ext (Own.ext (h := h6) (by assumption)))) ?_
                rintro _ h7 (⟨e7, i7, hM7, hne7, rfl, oc⟩ | ⟨zs, ts7, xa, xc, K, hM7, hL7, hI7, hlen7, rfl, hp7, oc⟩)
                · have o7 := oc.thenE (by assumption)
                  clear oc
                  (refine RunVC.alloc o7 ty25 ?_; intro b640 m640 o640)
                  (refine RunVC.storeL o640 3 rfl ty25 rfl (by decide) (And.intro ⟨rfl, rfl⟩ ?_); intro m641 o641)
                  refine Br.tt ?_
                  refine Br.ndec (fun c642 => ?_) (fun hc => absurd hc (by first | omega | assumption | decide | exact rfl))
                  refine RetVC.one rfl ?_
                  exact ⟨by simp, Own.sel (by assumption) [] rfl⟩
                · have o7 := Own.call (by assumption) oc
                  clear oc
                  (refine RunVC.alloc o7 ty25 ?_; intro b660 m660 o660)
                  (refine RunVC.storeL o660 4 rfl ty25 rfl (by decide) (And.intro ⟨rfl, rfl⟩ ?_); intro m661 o661)
                  refine Br.tt ?_
                  refine Br.ndec (fun c662 => ?_) (fun hc => absurd hc (by first | omega | assumption | decide | exact rfl))
                  refine RetVC.one rfl ?_
                  exact ⟨by simp, Own.sel (by assumption) [] rfl⟩
              · have o6 := Own.call (by assumption) oc
                clear oc
                have hP := hch t l6 hL6
                refine CallVC.ret (parse_cases (by omega) _ (hW.ext (Own.ext (h := h6) (by assumption)))) ?_
                rintro _ h7 (⟨e7, i7, hM7, hne7, rfl, oc⟩ | ⟨zs, ts7, xa, xc, K, hM7, _⟩)
                · rw [hP] at hM7
                  cases hM7
                  have o7 := oc.thenE (by assumption)
                  clear oc
                  (refine RunVC.alloc o7 ty25 ?_; intro b700 m700 o700)
                  (refine RunVC.storeL o700 4 rfl ty25 rfl (by decide) (And.intro ⟨rfl, rfl⟩ ?_); intro m701 o701)
                  refine Br.tt ?_
                  refine Br.ff ?_
                  refine Br.tt ?_
                  refine RetVC.one rfl ?_
                  exact ⟨by simp, Own.sel (by assumption) [] rfl⟩
                · rw [hP] at hM7
                  cases hM7
      · refine Br.ndec (fun c700 => ?_) (fun hc => absurd hc (by first | omega | assumption | decide | exact rfl))
        refine RetVC.one rfl ?_
        exact ⟨rfl, Own.sel (by assumption) [] rfl⟩
  · have o2 := Own.call (by assumption) oc
    simp only [List.nil_append] at o2
    clear oc
    (refine RunVC.alloc o2 ty25 ?_; intro b800 m800 o800)
    (refine RunVC.storeL o800 1 rfl ty25 rfl (by decide) (And.intro ⟨rfl, rfl⟩ ?_); intro m801 o801)
    refine CallVC.ret (lex_cases (by omega) _) ?_
    rintro _ h3 (⟨e2, i2, hL2, hne2, rfl, oc⟩ | ⟨l, u, hL2, rfl, oc⟩)
    · have o3 := oc.thenE (by assumption)
      clear oc
      refine Br.tt ?_
      refine RetVC.one rfl ?_
      exact ⟨rfl, Own.sel (by assumption) [] rfl⟩
    · have o3 := Own.call (by assumption) oc
      clear oc
      refine Br.tt ?_
      refine RetVC.one rfl ?_
      exact ⟨rfl, Own.sel (by assumption) [] rfl⟩

end Go.Proofs.YtnmfanjhepepbaaDoor
