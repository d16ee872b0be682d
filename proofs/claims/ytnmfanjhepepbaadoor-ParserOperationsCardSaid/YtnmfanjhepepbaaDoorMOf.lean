/-
  Offsets, in plain Lean: items and expressions stand in the text where their offsets say, in order. The law's own order of expressions in their text. The walk of ParserOffsets.
-/
import Derived.Test.YtnmfanjhepepbaaDoorStructs
import Derived.Test.YtnmfanjhepepbaaDoorMJo
import Derived.Test.YtnmfanjhepepbaaDoorMSm
set_option linter.all false
/- Offsets, in plain Lean: items and expressions stand in the text where their offsets say, in order. -/
namespace Go.Proofs.YtnmfanjhepepbaaDoor
open Go

theorem PM.inv {α β : Type} {m : PM α} {f : α → PM β} {ts r : List Tok} {b : β} (h : (m >>= f) ts = .ok (b, r)) : ∃ a q, m ts = .ok (a, q) ∧ f a q = .ok (b, r) := by
  cases hq : m ts with
  | error e => rw [PM.bind_err hq] at h; cases h
  | ok p =>
    obtain ⟨a, q⟩ := p
    exact ⟨a, q, rfl, (PM.bind_ok hq).symm.trans h⟩

/-- A token before another. -/
def Bef (a b : Tok) : Prop := a.off < b.off ∧ (a.kind ≠ 3 → a.off + a.text.length ≤ b.off)

theorem LexG.at : ∀ (n : Nat) (l : List UInt8) (i : Nat) (ts : List Tok), l.length ≤ n → LexG l i (.ok ts) →
    (∀ y ∈ ts, i ≤ y.off ∧ (y.kind ≠ 3 → y.off - i + y.text.length ≤ l.length ∧ (l.drop (y.off - i)).take y.text.length = y.text)) ∧ ts.Pairwise Bef := by
  intro n
  induction n with
  | zero =>
    intro l i ts hn h
    obtain rfl : l = [] := List.eq_nil_of_length_eq_zero (by omega)
    rcases h.inv_ok with ⟨rfl, _⟩ | ⟨_, _, _, _, _, _, hlt, _⟩
    · exact ⟨(fun _ h => by cases h), .nil⟩
    · simp at hlt
  | succ n ih =>
    intro l i ts hn h
    rcases h.inv_ok with ⟨rfl, _⟩ | ⟨k, x, m, len, us, hR, hlt, rfl, hrest⟩
    · exact ⟨(fun _ h => by cases h), .nil⟩
    · obtain ⟨h1, h2⟩ := readR_len hR
      rw [List.length_drop] at h2
      obtain ⟨i1, i2⟩ := ih (l.drop (gapF false l + len)) (i + gapF false l + len) us (by rw [List.length_drop]; omega) hrest
      have hx : k ≠ 3 → x.length = len := fun hk => by rw [readR_text hR hk, List.length_take, List.length_drop]; omega
      refine ⟨fun y hy => ?_, List.pairwise_cons.2 ⟨fun y hy => ?_, i2⟩⟩
      · rcases List.mem_cons.1 hy with rfl | hy
        · refine ⟨by simp only; omega, fun hk => ?_⟩
          have e := hx hk
          have e2 := readR_text hR hk
          simp only at e e2 ⊢
          rw [Nat.add_sub_cancel_left]
          exact ⟨by omega, by rw [e]; exact e2.symm⟩
        · obtain ⟨a, b⟩ := i1 y hy
          refine ⟨by omega, fun hk => ?_⟩
          obtain ⟨b1, b2⟩ := b hk
          rw [List.length_drop] at b1
          rw [List.drop_drop] at b2
          rw [show gapF false l + len + (y.off - (i + gapF false l + len)) = y.off - i by omega] at b2
          exact ⟨by omega, b2⟩
      · obtain ⟨a, _⟩ := i1 y hy
        refine ⟨by simp only; omega, fun hk => ?_⟩
        have e := hx hk
        simp only
        omega

/-- Tokens of a text, where they stand. -/
structure TA (s : List UInt8) (ts : List Tok) : Prop where
  lw : LW ts
  at_ : ∀ y ∈ ts, y.off < s.length ∧ (y.kind ≠ 3 → y.off + y.text.length ≤ s.length ∧ (s.drop y.off).take y.text.length = y.text)
  ord : ts.Pairwise Bef

theorem TA.right {s : List UInt8} {p r : List Tok} (h : TA s (p ++ r)) : TA s r := ⟨h.lw.right, fun y hy => h.at_ y (List.mem_append_right _ hy), (List.pairwise_append.1 h.ord).2.1⟩
theorem TA.tail {s : List UInt8} {t : Tok} {r : List Tok} (h : TA s (t :: r)) : TA s r := TA.right (p := [t]) h
theorem TA.before {s : List UInt8} {t : Tok} {r : List Tok} (h : TA s (t :: r)) {y : Tok} (hy : y ∈ r) : Bef t y := (List.pairwise_cons.1 h.ord).1 y hy

theorem ta_of {s : List UInt8} {ts : List Tok} (h : lexM s = .ok ts) : TA s ts := by
  have g := lexM_okG h
  obtain ⟨w, b, _⟩ := LexG.wf _ _ _ _ (Nat.le_refl _) g
  obtain ⟨a, o⟩ := LexG.at _ _ _ _ (Nat.le_refl _) g
  exact ⟨w, fun y hy => ⟨by have := b y hy; omega, (a y hy).2⟩, o⟩

mutual
/-- An expression in its text: from an offset on, and the offset of its last part. -/
def OrdX (s : List UInt8) : Ex → Nat → Nat → Prop
  | .mk k t kids _ _ _ _ _ off, fr, last => fr ≤ off ∧ off < s.length ∧ (k = 1 → off + t.length ≤ s.length ∧ (s.drop off).take t.length = t) ∧ OrdXs s kids off last
def OrdXs (s : List UInt8) : List Ex → Nat → Nat → Prop
  | [], a, last => last = a
  | x :: xs, a, last => ∃ m, OrdX s x (a + 1) m ∧ OrdXs s xs m last
end

mutual
theorem exQ_self : ∀ (x : Ex), ExQ Eq x x
  | .mk _ _ ks _ _ _ _ _ _ => by
    rw [ExQ]
    exact ⟨rfl, rfl, rfl, rfl, rfl, rfl, rfl, rfl, exsQ_self ks⟩
theorem exsQ_self : ∀ (xs : List Ex), ExsQ Eq xs xs
  | [] => trivial
  | x :: xs => ⟨exQ_self x, exsQ_self xs⟩
end

theorem rest_is {z i off : Nat} {kids : List Ex} {ts r : List Tok} {x : Ex} (h : opRest z i off kids ts = .ok (x, r)) : ∃ k t c n a b g, x = .mk k t kids c n a b g off ∧ k ≠ 1 := by
  have : Post (opRest z i off kids) (fun x => ∃ k t c n a b g, x = .mk k t kids c n a b g off ∧ k ≠ 1) := by
    match i with
    | 0 => exact post_bind fun _ => post_pure ⟨_, _, _, _, _, _, _, rfl, by decide⟩
    | 1 => exact post_bind fun _ => post_bind fun _ => post_pure ⟨_, _, _, _, _, _, _, rfl, by decide⟩
    | 2 => exact post_pure ⟨_, _, _, _, _, _, _, rfl, by decide⟩
    | 3 => exact post_pure ⟨_, _, _, _, _, _, _, rfl, by decide⟩
    | 4 => exact post_pure ⟨_, _, _, _, _, _, _, rfl, by decide⟩
    | 5 => exact post_bind fun _ => post_bind fun _ => post_bind fun _ => post_bind fun _ => post_pure ⟨_, _, _, _, _, _, _, rfl, by decide⟩
    | 6 => exact post_bind fun _ => post_bind fun _ => post_bind fun _ => post_bind fun _ => post_bind fun _ => post_bind fun _ => post_bind fun _ => post_pure ⟨_, _, _, _, _, _, _, rfl, by decide⟩
    | n + 7 => exact post_pure ⟨_, _, _, _, _, _, _, rfl, (by show (2 : Int) + ((n + 7 : Nat) : Int) ≠ 1; omega)⟩
  exact this _ _ _ h

theorem wordP_is (z : Nat) : ∀ (ss : List (List UInt8)) (i : Int) (ts r : List Tok) (k : Int), wordP z ss i ts = .ok (k, r) → ∃ t j w, ts = t :: r ∧ ss[j]? = some w ∧ k = i + (j : Nat) ∧ wordB t w = true
  | [], _, _, _, _, h => by cases h
  | s :: ss, i, ts, r, k, h => by
    obtain ⟨b, q, h1, h2⟩ := PM.inv (show (takeB s >>= fun b => if b = true then (pure i : PM Int) else wordP z ss (i + 1)) ts = .ok (k, r) from h)
    unfold takeB at h1
    split at h1
    · rename_i hs
      cases h1
      simp only [if_true] at h2
      cases h2
      cases ts with
      | nil => cases hs
      | cons t q =>
        refine ⟨t, 0, s, rfl, rfl, by simp, ?_⟩
        have : (wordB t s && true) = true := hs
        simpa using this
    · cases h1
      simp only [Bool.false_eq_true, if_false] at h2
      obtain ⟨t, j, w, a1, a2, a3, a4⟩ := wordP_is z ss (i + 1) ts r k h2
      exact ⟨t, j + 1, w, a1, a2, by omega, a4⟩

theorem expr_ord (s : List UInt8) (z : Nat) : ∀ (n : Nat) (ts : List Tok) (x : Ex) (r : List Tok), TA s ts → exprP z n ts = .ok (x, r) →
    ∃ p t0 q0 last, ts = p ++ r ∧ ts = t0 :: q0 ∧ (∀ fr, fr ≤ t0.off → OrdX s x fr last) ∧ last < s.length ∧ ∀ y ∈ r, last < y.off
  | 0, ts, x, r, _, h => by cases h
  | n + 1, ts, x, r, ht, h => by
    cases hop : opIdx ts with
    | none =>
      rw [exprP_tab hop] at h
      obtain ⟨a, q, h1, h2⟩ := PM.inv h
      obtain ⟨t, rfl, hk, rfl⟩ := nameP_is h1
      cases h2
      obtain ⟨c1, c2⟩ := ht.at_ t (by simp)
      obtain ⟨c3, c4⟩ := c2 (by rw [hk]; decide)
      refine ⟨[t], t, _, t.off, rfl, rfl, fun fr hf => ?_, c1, fun y hy => (ht.before hy).1⟩
      unfold exTable
      rw [OrdX]
      exact ⟨hf, c1, fun _ => ⟨c3, c4⟩, by rw [OrdXs]; rfl⟩
    | some i =>
      obtain ⟨hi, t, t2, q, rfl, w1, w2⟩ := opIdx_is hop
      rw [exprP_op hop w1 w2] at h
      unfold exTail at h
      obtain ⟨a, r1, ha, h⟩ := PM.inv h
      obtain ⟨kids, r2, hk, h⟩ := PM.inv h
      obtain ⟨y, r3, hr, h⟩ := PM.inv h
      obtain ⟨_, r4, hn, h⟩ := PM.inv h
      cases h
      obtain ⟨p1, t0, q0, la, e1, e2, ho, hl, hr1⟩ := expr_ord s z n q a r1 ht.tail.tail ha
      obtain ⟨c1, _⟩ := ht.at_ t (by simp)
      have ht1 : TA s r1 := by have := ht.tail.tail; rw [e1] at this; exact this.right
      have hto : t.off + 1 ≤ t0.off := (ht.before (y := t0) (by rw [e2]; simp)).1
      have key : ∃ last p2, r1 = p2 ++ r2 ∧ OrdXs s kids t.off last ∧ last < s.length ∧ ∀ y ∈ r2, last < y.off := by
        unfold ifP at hk
        split at hk
        · obtain ⟨_, r1', hc, hk⟩ := PM.inv hk
          obtain ⟨b, r2', hb, hk⟩ := PM.inv hk
          cases hk
          obtain ⟨pc, ec, _⟩ := (par_need (Q := Eq) [[44]]).ok z r1 () r1' ht1.lw hc
          rw [ec] at ht1 hr1
          obtain ⟨pb, tb, qb, lb, eb, eb2, hob, hlb, hrb⟩ := expr_ord s z n r1' b _ ht1.right hb
          refine ⟨lb, pc ++ pb, by rw [ec, eb]; simp, ?_, hlb, hrb⟩
          rw [OrdXs]
          refine ⟨la, ho _ hto, ?_⟩
          rw [OrdXs]
          exact ⟨lb, hob _ (hr1 tb (by rw [eb2]; simp)), by rw [OrdXs]⟩
        · cases hk
          refine ⟨la, [], rfl, ?_, hl, hr1⟩
          rw [OrdXs]
          exact ⟨la, ho _ hto, by rw [OrdXs]⟩
      obtain ⟨last, p2, e3, hks, hll, hr2⟩ := key
      have ht2 : TA s r2 := by rw [e3] at ht1; exact ht1.right
      obtain ⟨p3, e4, _⟩ := (par_rest (Q := Eq) i (rfl : t.off = t.off) (kids := kids) (kids' := kids) (exsQ_self kids)).ok z r2 _ r3 ht2.lw hr
      have ht3 : TA s r3 := by rw [e4] at ht2; exact ht2.right
      obtain ⟨p4, e5, _⟩ := (par_need (Q := Eq) [[41]]).ok z r3 () _ ht3.lw hn
      obtain ⟨k, tt, c, nn, aa, bb, g, rfl, hk1⟩ := rest_is hr
      refine ⟨t :: t2 :: (p1 ++ p2 ++ p3 ++ p4), t, t2 :: q, last, by rw [e1, e3, e4, e5]; simp, rfl, fun fr hf => ?_, hll, fun y hy => hr2 y (by rw [e4, e5]; simp [hy])⟩
      rw [OrdX]
      exact ⟨hf, c1, fun e => absurd e hk1, hks⟩

theorem item_offs {s : List UInt8} {z : Nat} {ts : List Tok} {x : It} {r : List Tok} (ht : TA s ts) (h : itemP z ts = .ok (x, r)) :
    ∃ p t, ts = t :: (p ++ r) ∧ x.off = t.off ∧ t.kind ≠ 3 ∧ 1 ≤ x.kind ∧ x.kind ≤ 10 ∧ itWords[(x.kind - 1).toNat]? = some t.text ∧
      (x.kind = 10 → ∃ last, OrdX s x.expr (t.off + t.text.length) last ∧ last < s.length ∧ ∀ y ∈ r, last < y.off) := by
  cases ts with
  | nil => rw [itemP_nil] at h; cases h
  | cons t q =>
    obtain ⟨p, hne, ep, _⟩ := item_firm (Q := Eq) ht.lw h
    obtain ⟨t', p, rfl⟩ := List.exists_cons_of_ne_nil hne
    simp only [List.cons_append, List.cons.injEq] at ep
    obtain ⟨rfl, ep⟩ := ep
    rw [itemP_G] at h
    unfold itemG at h
    obtain ⟨k, r1, hk, h⟩ := PM.inv h
    obtain ⟨nm, r2, hn, h⟩ := PM.inv h
    obtain ⟨y, r3, hp, h⟩ := PM.inv h
    obtain ⟨_, r4, he, h⟩ := PM.inv h
    cases h
    obtain ⟨t1, j, w, e1, hj, rfl, hw⟩ := wordP_is z itWords 1 _ _ _ hk
    injection e1 with e1 e2
    subst e1 e2
    obtain ⟨hw1, hw2⟩ := of_decide_eq_true hw
    obtain ⟨hk1, hk2, hk3⟩ := kept_part z _ _ _ _ _ hp
    have hj10 : j < 10 := (List.getElem?_eq_some_iff.1 hj).1
    have hkk : x.kind = 1 + (j : Nat) := hk1
    have hk3' : t.kind ≠ 3 := by rcases hw2 with e | e <;> rw [e] <;> decide
    refine ⟨p, t, by rw [ep], hk3, hk3', by omega, by omega, ?_, fun h10 => ?_⟩
    · rw [hkk, show (1 + (j : Nat) - 1 : Int).toNat = j by omega, hw1]; exact hj
    · have hj9 : j = 9 := by omega
      subst hj9
      have hp' : queryP z (x0 10 nm t.off) r2 = .ok (x, r3) := hp
      unfold queryP at hp'
      obtain ⟨_, r5, hq, hp'⟩ := PM.inv hp'
      obtain ⟨e, r6, hx, hp'⟩ := PM.inv hp'
      cases hp'
      obtain ⟨p2, ea, _⟩ := (par_ifP (Q := Eq) (c := ((1 : Int) + (9 : Nat) != 5)) (d := ([] : List UInt8)) par_name).ok z _ _ _ ht.tail.lw hn
      have hta := ht.tail
      rw [ea] at hta
      obtain ⟨p3, eb, _⟩ := (par_need (Q := Eq) [[61]]).ok z _ _ _ hta.right.lw hq
      have htb := hta.right
      rw [eb] at htb
      obtain ⟨p4, t0, q0, last, ec, ed, ho, hl, hr⟩ := expr_ord s z 12 _ _ _ htb.right hx
      have hb := (ht.before (y := t0) (by rw [ea, eb, ed]; simp)).2 hk3'
      refine ⟨last, ho _ hb, hl, fun y hy => hr y ?_⟩
      have htc := htb.right
      rw [ec] at htc
      obtain ⟨p5, ee, _⟩ := (par_need (Q := Eq) [if (1 : Int) + (9 : Nat) = 4 then [125] else [59]]).ok z _ _ _ htc.right.lw he
      rw [ee]
      exact List.mem_append_right _ hy

/-- Items in their text. -/
def OffI (s : List UInt8) : List It → Nat → Prop
  | [], _ => True
  | x :: xs, fr => 1 ≤ x.kind ∧ x.kind ≤ 10 ∧ ∃ w, itWords[(x.kind - 1).toNat]? = some w ∧ fr ≤ x.off ∧ x.off + w.length ≤ s.length ∧ (s.drop x.off).take w.length = w ∧
    (x.kind ≠ 10 → OffI s xs (x.off + w.length)) ∧ (x.kind = 10 → ∃ last, OrdX s x.expr (x.off + w.length) last ∧ last < s.length ∧ OffI s xs (last + 1))

theorem its_offs {s : List UInt8} {z : Nat} {ts : List Tok} {xs : List It} (h : Its z ts xs) : TA s ts → ∀ fr, (∀ y ∈ ts, fr ≤ y.off) → OffI s xs fr := by
  induction h with
  | nil => exact fun _ _ _ => trivial
  | @cons ts r x xs hi _ ih =>
    intro ht fr hf
    obtain ⟨p, t, rfl, ho, hk, k1, k2, hw, hx⟩ := item_offs ht hi
    obtain ⟨_, c2⟩ := ht.at_ t (by simp)
    obtain ⟨c3, c4⟩ := c2 hk
    have hr : TA s r := ht.tail.right
    refine ⟨k1, k2, t.text, hw, by rw [ho]; exact hf t (by simp), by rw [ho]; exact c3, by rw [ho]; exact c4, fun _ => ?_, fun h10 => ?_⟩
    · rw [ho]
      exact ih hr _ fun y hy => (ht.before (y := y) (by simp [hy])).2 hk
    · obtain ⟨last, l1, l2, l3⟩ := hx h10
      exact ⟨last, by rw [ho]; exact l1, l2, ih hr _ fun y hy => l3 y hy⟩

theorem offs_plain {s : List UInt8} {ts : List Tok} {xs : List It} {z : Nat} (hL : lexM s = .ok ts) (hI : Its z ts xs) : OffI s xs 0 := its_offs hI (ta_of hL) 0 fun _ _ => Nat.zero_le _

end Go.Proofs.YtnmfanjhepepbaaDoor

/- The law's own order of expressions in their text. -/
namespace Go.Proofs.YtnmfanjhepepbaaDoor
open Go

mutual
theorem OrdX.lt {s : List UInt8} : ∀ (x : Ex) (fr last : Nat), OrdX s x fr last → last < s.length
  | .mk _ _ kids _ _ _ _ _ _, fr, last, h => by
    rw [OrdX] at h
    exact OrdXs.lt kids _ _ h.2.2.2 h.2.1
theorem OrdXs.lt {s : List UInt8} : ∀ (xs : List Ex) (a last : Nat), OrdXs s xs a last → a < s.length → last < s.length
  | [], a, last, h, ha => by rw [OrdXs] at h; omega
  | x :: xs, a, last, h, _ => by
    rw [OrdXs] at h
    obtain ⟨m, h1, h2⟩ := h
    exact OrdXs.lt xs m last h2 (OrdX.lt x _ _ h1)
end

theorem cut_mid (s : List UInt8) (a n : Nat) : List.drop a (List.take (a + n) s) = (s.drop a).take n := by
  rw [List.drop_take, Nat.add_sub_cancel_left]

set_option maxHeartbeats 8000000 in
set_option maxRecDepth 100000 in
theorem ordered_spec (s : List UInt8) (hs : s.length ≤ 8000) (I : Item) : ∀ (n : Nat) (x : Ex) (c : List Value) (h : Heap) (fr last : Nat) (frv : Int) (_ : frv = (fr : Int)) (_ : exDep x ≤ n) (_ : ExB 10000 x) (_ : exR I c x) (_ : SatE I h) (_ : OrdX s x fr last) (_ : fr ≤ 20000),
    SpecR Tryd.prog 10 [.string ⟨⟨s⟩⟩, .agg ⟨c⟩, .int .i64 frv] h fun r h' => r = .tuple ⟨[.int .i64 last, .bool true]⟩ ∧ Own h [] h'
  | 0, .mk _ _ _ _ _ _ _ _ _, _, _, _, _, _, _, hd, _, _, _, _, _ => absurd hd (by rw [exDep]; omega)
  | n + 1, .mk k t ks cs ns a s' g o, c, h, fr, last, _, rfl, hd, hB, hc, hIe, hO, hfr => by
    have hI := hIe.sat
    have hlast := OrdX.lt _ _ _ hO
    rw [exDep] at hd
    rw [ExB] at hB
    rw [exR] at hc
    rw [OrdX] at hO
    obtain ⟨c1, c2, c3, c4⟩ := hO
    obtain ⟨vk, vc, vn, rfl, r1, r2, xs, r3, rk⟩ := hc
    obtain ⟨b1, b2, b3, b4⟩ := hB
    have q3 := r3 h hI
    obtain ⟨e1, f1, rfl⟩ := r1.isS hI
    obtain ⟨e2, f2, rfl⟩ := r2.isS hI
    obtain ⟨e3, f3, rfl⟩ := r3.isS hI
    unfold exC
    refine Spec.enter Tryd.func10 rfl Tryd.ntmps10 (by kernel_rfl) ?_
    have o0 := Own.refl h
    have hxs : xs.length = ks.length := exsR_len rk
    by_cases hk : k = 1
    · subst hk
      obtain ⟨c5, c6⟩ := c3 rfl
      have c7 : List.drop (o : Int).toNat (List.take ((o : Int) + (t.length : Int)).toNat s) = t := by
        rw [show (o : Int).toNat = o by omega, show ((o : Int) + (t.length : Int)).toNat = o + t.length by omega, cut_mid, c6]
      (refine RunVC.boxO o0 rfl ?_; intro b10 m10 o10)
      refine StillVC.run (StillVC.fieldAddr st43 rfl rfl rfl ?_)
      refine StillVC.run (StillVC.loadO o10 0 rfl ty3 rfl rfl ?_)
      refine Br.dec (fun hc => absurd hc (by omega)) (fun c13 => ?_)
      refine StillVC.run (StillVC.fieldAddr st43 rfl rfl rfl ?_)
      refine StillVC.run (StillVC.loadO o10 0 rfl ty3 rfl rfl ?_)
      refine StillVC.run (StillVC.lenS rfl str9 ?_)
      refine Br.dec (fun hc => absurd hc (by omega)) (fun c17 => ?_)
      refine DrawVC.intro [0, 2, 3, 4, 6, 7, 8, 10, 11, 12, 13, 14, 15, 17, 19, 21, 22, 23, 24, 26, 27, 28] [1, 5, 9, 16, 18, 20, 25] [] [0, 1, 2, 3, 4, 5, 6, 7, 8, 9, 10, 11, 12, 13, 14, 15, 16, 17, 18, 19, 20, 21, 22, 23, 24, 25, 26, 27, 28] mixed (by kernel_rfl) rfl (fun _ _ _ _ h => h) ?_
      refine StillVC.fieldAddr st43 rfl rfl rfl ?_
      refine StillVC.loadO o10 0 rfl ty3 rfl rfl ?_
      refine Br.tt ?_
      refine StillVC.fieldAddr st43 rfl rfl rfl ?_
      refine StillVC.loadO o10 0 rfl ty3 rfl rfl ?_
      refine StillVC.lenS rfl str9 ?_
      refine StillVC.fieldAddr st43 rfl rfl rfl ?_
      refine StillVC.loadO o10 0 rfl ty9 rfl rfl ?_
      refine StillVC.lenS rfl str9 ?_
      refine Ar.i64 (by omega) (by omega) ?_
      refine Br.dec (fun hc => absurd hc (by omega)) (fun c26 => ?_)
      refine StillVC.fieldAddr st43 rfl rfl rfl ?_
      refine StillVC.loadO o10 0 rfl ty3 rfl rfl ?_
      refine StillVC.fieldAddr st43 rfl rfl rfl ?_
      refine StillVC.loadO o10 0 rfl ty3 rfl rfl ?_
      refine StillVC.fieldAddr st43 rfl rfl rfl ?_
      refine StillVC.loadO o10 0 rfl ty9 rfl rfl ?_
      refine StillVC.lenS rfl str9 ?_
      refine Ar.i64 (by omega) (by omega) ?_
      refine StillVC.sliceS str9 rfl ⟨_, rfl⟩ ⟨_, rfl⟩ (by omega) (by omega) (by omega) ?_
      refine StillVC.fieldAddr st43 rfl rfl rfl ?_
      refine StillVC.loadO o10 0 rfl ty9 rfl rfl ?_
      refine Br.ndec (fun hc => absurd (by first | omega | assumption | decide | exact rfl) hc) (fun c37 => ?_)
      refine StillVC.run (StillVC.fieldAddr st43 rfl rfl rfl ?_)
      refine StillVC.run (StillVC.loadO o10 0 rfl ty3 rfl rfl ?_)
      refine LoopVC.intro [6, 7, 8, 9, 10, 11, 54, 55, 56, 57, 58, 59, 60, 61, 62, 63, 64, 65, 66, 67, 68, 69, 70, 71, 72, 73, 74, 75] [8, 9] (fun vs hh => ∃ (i aa : Nat), i ≤ ks.length ∧ aa < s.length ∧ OrdXs s (ks.drop i) aa last ∧ vs = [.int .i64 aa, .int .i64 i] ∧ Own h [box b10 [.int .i64 1, .string ⟨⟨t⟩⟩, .slice e3 ks.length f3, .slice e1 cs.length f1, .slice e2 ns.length f2, .string ⟨⟨a⟩⟩, .string ⟨⟨s'⟩⟩, .int .i64 g, .int .i64 o] 43] hh) (fun vs _ => match vs with | [_, .int _ i] => ks.length - i.toNat | _ => 0) ?_ ?_
      · exact ⟨0, o, by omega, c2, c4, rfl, by assumption⟩
      · rintro vs junk hh ⟨i, aa, hi, haa, hO, rfl, oh⟩
        by_cases hlt : i < ks.length
        · obtain ⟨kx, hkx⟩ := getx hlt
          obtain ⟨cx, hcx, hrx⟩ := exsR_get rk hkx
          rw [List.drop_eq_getElem_cons hlt, (List.getElem?_eq_some_iff.1 hkx).2, OrdXs] at hO
          obtain ⟨m, hm, hO'⟩ := hO
          refine StillVC.run (StillVC.fieldAddr st43 rfl rfl rfl ?_)
          refine StillVC.run (StillVC.loadO oh 0 rfl ty41 rfl rfl ?_)
          refine StillVC.run (StillVC.lenV rfl sl41 ?_)
          refine Br.dec (fun c113 => ?_) (fun hc => absurd (by omega) hc)
          refine StillVC.run (StillVC.fieldAddr st43 rfl rfl rfl ?_)
          refine StillVC.run (StillVC.loadO oh 0 rfl ty41 rfl rfl ?_)
          refine StillVC.run (StillVC.idxN sl41 ty43 (q3.ext oh.ext) rfl (by omega) (by omega) ?_)
          refine StillVC.run (StillVC.loadFT ty43 (q3.ext oh.ext) (fun y : Cells9 => y.2) (by decide) rfl (by assumption) ?_)
          refine Ar.i64 (by omega) (by omega) ?_
          refine CallVC.ret (ordered_spec s hs I n kx cx.1 _ (aa + 1) m _ (by omega) (Nat.le_trans (exsDep_get hkx) (by omega)) (exsB_get b4 hkx) hrx (hIe.ext oh.ext) hm (by omega)) ?_
          rintro _ hs3 ⟨rfl, oc3⟩
          have os3 := oc3.thenE oh
          clear oc3
          refine Br.ff ?_
          refine Ar.i64 (by omega) (by omega) ?_
          refine ⟨rfl, ?_⟩
          exact ⟨⟨i + 1, m, by omega, OrdX.lt _ _ _ hm, hO', rfl, Own.sel (by assumption) [0] rfl⟩, by simp; omega⟩
        · rw [List.drop_of_length_le (by omega), OrdXs] at hO
          subst hO
          refine StillVC.run (StillVC.fieldAddr st43 rfl rfl rfl ?_)
          refine StillVC.run (StillVC.loadO oh 0 rfl ty41 rfl rfl ?_)
          refine StillVC.run (StillVC.lenV rfl sl41 ?_)
          refine Br.dec (fun hc => absurd hc (by omega)) (fun c313 => ?_)
          refine RetVC.two rfl ?_
          exact ⟨rfl, Own.sel (by assumption) [] rfl⟩
    · (refine RunVC.boxO o0 rfl ?_; intro b1000 m1000 o1000)
      refine StillVC.run (StillVC.fieldAddr st43 rfl rfl rfl ?_)
      refine StillVC.run (StillVC.loadO o1000 0 rfl ty3 rfl rfl ?_)
      refine Br.dec (fun hc => absurd hc (by omega)) (fun c1003 => ?_)
      refine StillVC.run (StillVC.fieldAddr st43 rfl rfl rfl ?_)
      refine StillVC.run (StillVC.loadO o1000 0 rfl ty3 rfl rfl ?_)
      refine StillVC.run (StillVC.lenS rfl str9 ?_)
      refine Br.dec (fun hc => absurd hc (by omega)) (fun c1007 => ?_)
      refine DrawVC.intro [0, 2, 3, 4, 6, 7, 8, 10, 11, 12, 13, 14, 15, 17, 19, 21, 22, 23, 24, 26, 27, 28] [1, 5, 9, 16, 18, 20, 25] [] [0, 1, 2, 3, 4, 5, 6, 7, 8, 9, 10, 11, 12, 13, 14, 15, 16, 17, 18, 19, 20, 21, 22, 23, 24, 25, 26, 27, 28] mixed (by kernel_rfl) rfl (fun _ _ _ _ h => h) ?_
      refine StillVC.fieldAddr st43 rfl rfl rfl ?_
      refine StillVC.loadO o1000 0 rfl ty3 rfl rfl ?_
      refine Br.dec (fun hc => absurd hc (by omega)) (fun c1010 => ?_)
      refine Br.ff ?_
      refine StillVC.run (StillVC.fieldAddr st43 rfl rfl rfl ?_)
      refine StillVC.run (StillVC.loadO o1000 0 rfl ty3 rfl rfl ?_)
      refine LoopVC.intro [6, 7, 8, 9, 10, 11, 54, 55, 56, 57, 58, 59, 60, 61, 62, 63, 64, 65, 66, 67, 68, 69, 70, 71, 72, 73, 74, 75] [8, 9] (fun vs hh => ∃ (i aa : Nat), i ≤ ks.length ∧ aa < s.length ∧ OrdXs s (ks.drop i) aa last ∧ vs = [.int .i64 aa, .int .i64 i] ∧ Own h [box b1000 [.int .i64 k, .string ⟨⟨t⟩⟩, .slice e3 ks.length f3, .slice e1 cs.length f1, .slice e2 ns.length f2, .string ⟨⟨a⟩⟩, .string ⟨⟨s'⟩⟩, .int .i64 g, .int .i64 o] 43] hh) (fun vs _ => match vs with | [_, .int _ i] => ks.length - i.toNat | _ => 0) ?_ ?_
      · exact ⟨0, o, by omega, c2, c4, rfl, by assumption⟩
      · rintro vs junk hh ⟨i, aa, hi, haa, hO, rfl, oh⟩
        by_cases hlt : i < ks.length
        · obtain ⟨kx, hkx⟩ := getx hlt
          obtain ⟨cx, hcx, hrx⟩ := exsR_get rk hkx
          rw [List.drop_eq_getElem_cons hlt, (List.getElem?_eq_some_iff.1 hkx).2, OrdXs] at hO
          obtain ⟨m, hm, hO'⟩ := hO
          refine StillVC.run (StillVC.fieldAddr st43 rfl rfl rfl ?_)
          refine StillVC.run (StillVC.loadO oh 0 rfl ty41 rfl rfl ?_)
          refine StillVC.run (StillVC.lenV rfl sl41 ?_)
          refine Br.dec (fun c1113 => ?_) (fun hc => absurd (by omega) hc)
          refine StillVC.run (StillVC.fieldAddr st43 rfl rfl rfl ?_)
          refine StillVC.run (StillVC.loadO oh 0 rfl ty41 rfl rfl ?_)
          refine StillVC.run (StillVC.idxN sl41 ty43 (q3.ext oh.ext) rfl (by omega) (by omega) ?_)
          refine StillVC.run (StillVC.loadFT ty43 (q3.ext oh.ext) (fun y : Cells9 => y.2) (by decide) rfl (by assumption) ?_)
          refine Ar.i64 (by omega) (by omega) ?_
          refine CallVC.ret (ordered_spec s hs I n kx cx.1 _ (aa + 1) m _ (by omega) (Nat.le_trans (exsDep_get hkx) (by omega)) (exsB_get b4 hkx) hrx (hIe.ext oh.ext) hm (by omega)) ?_
          rintro _ hs3 ⟨rfl, oc3⟩
          have os3 := oc3.thenE oh
          clear oc3
          refine Br.ff ?_
          refine Ar.i64 (by omega) (by omega) ?_
          refine ⟨rfl, ?_⟩
          exact ⟨⟨i + 1, m, by omega, OrdX.lt _ _ _ hm, hO', rfl, Own.sel (by assumption) [0] rfl⟩, by simp; omega⟩
        · rw [List.drop_of_length_le (by omega), OrdXs] at hO
          subst hO
          refine StillVC.run (StillVC.fieldAddr st43 rfl rfl rfl ?_)
          refine StillVC.run (StillVC.loadO oh 0 rfl ty41 rfl rfl ?_)
          refine StillVC.run (StillVC.lenV rfl sl41 ?_)
          refine Br.dec (fun hc => absurd hc (by omega)) (fun c1313 => ?_)
          refine RetVC.two rfl ?_
          exact ⟨rfl, Own.sel (by assumption) [] rfl⟩

end Go.Proofs.YtnmfanjhepepbaaDoor

/- The walk of ParserOffsets. -/
namespace Go.Proofs.YtnmfanjhepepbaaDoor
open Go

set_option maxHeartbeats 4000000 in
set_option maxRecDepth 100000 in
theorem words_spec (h : Heap) : SpecR Tryd.prog 9 [] h fun v h' => Own h [row v 9 1 10 (strs itWords)] h' := by
  refine Spec.enter Tryd.func9 rfl Tryd.ntmps9 (by kernel_rfl) ?_
  have o0 := Own.refl h
  (refine RunVC.lit o0 sl36 ty9 rfl rfl (by decide) (And.intro rfl ?_); intro b10 m10 o10)
  refine RetVC.one rfl ?_
  have q := o10.boxRow 0 rfl 1 10 10 rfl (Nat.le_refl _) (by decide)
  exact q

set_option maxHeartbeats 8000000 in
set_option maxRecDepth 100000 in
theorem offsets_spec (s : List UInt8) (h : Heap) (hs : s.length ≤ 9223372036854775807) (hW : WordsH h) : SpecR Tryd.prog 4 [.string ⟨⟨s⟩⟩] h fun v h' => v = .bool true ∧ Own h [] h' := by
  refine Spec.enter Tryd.func4 rfl Tryd.ntmps4 (by kernel_rfl) ?_
  have o0 := Own.refl h
  refine CallVC.ret (head_spec _ hW) ?_
  rintro _ h1' ⟨rfl, oc⟩
  have o1 := oc.thenE (by assumption)
  clear oc
  by_cases hbig : 8000 < s.length
  · refine StillVC.run (StillVC.lenS rfl str9 ?_)
    refine Br.dec (fun c21 => ?_) (fun hc => absurd (by omega) hc)
    refine RetVC.one rfl ?_
    exact ⟨rfl, Own.sel (by assumption) [] rfl⟩
  refine StillVC.run (StillVC.lenS rfl str9 ?_)
  refine Br.dec (fun hc => absurd hc (by omega)) (fun c41 => ?_)
  refine CallVC.ret (parse_cases (by omega) _ (hW.ext o1.ext)) ?_
  rintro _ h2 (⟨e, i, hM, hne, rfl, oc⟩ | ⟨xs, ts, ua, uc, I, hM, hL, hI, hlen, rfl, hp, oc⟩)
  · have o2 := oc.thenE (by assumption)
    clear oc
    (refine RunVC.alloc o2 ty25 ?_; intro b60 m60 o60)
    (refine RunVC.storeL o60 0 rfl ty25 rfl (by decide) (And.intro ⟨rfl, rfl⟩ ?_); intro m61 o61)
    refine Br.ndec (fun c62 => ?_) (fun hc => absurd hc (by first | omega | assumption | decide | exact rfl))
    refine Br.tt ?_
    refine StillVC.run (StillVC.fieldAddr st25 rfl rfl rfl ?_)
    refine StillVC.run (StillVC.loadO o61 0 rfl ty23 rfl rfl ?_)
    refine StillVC.run (StillVC.lenV rfl sl23 ?_)
    refine RetVC.one rfl ?_
    exact ⟨by simp, Own.sel (by assumption) [] rfl⟩
  · have o2 := Own.call (by assumption) oc
    simp only [List.nil_append] at o2
    clear oc
    have hOff := offs_plain hL hI
    have hBs := hI.bound (N := 9999) (by decide) (by have := (lexM_props.2 ts hL).1; omega)
    obtain ⟨cs, r1, r2⟩ := hp
    obtain ⟨ca, e1, k1⟩ := itsR_cells r2
    rw [e1] at r1
    (refine RunVC.alloc o2 ty25 ?_; intro b100 m100 o100)
    (refine RunVC.storeL o100 1 rfl ty25 rfl (by decide) (And.intro ⟨rfl, rfl⟩ ?_); intro m101 o101)
    refine Br.ff ?_
    refine LoopVC.intro [2, 7, 8, 9, 10, 11, 12, 33, 34, 35, 36, 37, 38, 39, 40, 41, 42, 43, 44, 45, 46, 47, 48, 49, 50, 51, 52, 53, 54, 55, 56, 57, 58, 59, 60, 61, 62, 63, 64, 65, 66, 67, 68, 69, 70, 71, 72, 73, 74, 75, 76, 77, 78, 79, 80, 81, 82, 83, 84, 85, 86, 87, 88, 89, 90, 91, 92, 93, 94, 95, 96, 97, 98, 99, 100, 101, 102, 103, 104, 105] [7, 8] (fun vs hh => ∃ (i fr : Nat), i ≤ xs.length ∧ fr ≤ 8001 ∧ OffI s (xs.drop i) fr ∧ vs = [.int .i64 fr, .int .i64 i] ∧ Own h [I, box b100 [.slice ua xs.length uc] 25] hh) (fun vs _ => match vs with | [_, .int _ i] => xs.length - i.toNat | _ => 0) ?_ ?_
    · exact ⟨0, 0, by omega, by omega, hOff, rfl, by assumption⟩
    · rintro vs junk hh ⟨i, fr, hi, hfr, hO, rfl, oh⟩
      by_cases hlt : i < xs.length
      · obtain ⟨x, hx⟩ := getx hlt
        obtain ⟨cx, hcx, hrx⟩ := k1 i x hx
        have hB := hBs x (List.mem_of_getElem? hx)
        have qI := r1 _ (Own.satK oh 0 rfl)
        have hsI := Own.satE oh 0 rfl
        rw [List.drop_eq_getElem_cons hlt, (List.getElem?_eq_some_iff.1 hx).2] at hO
        obtain ⟨h1, h2, w, hw, ho1, ho2, ho3, hne, heq⟩ := hO
        have hwi : (strs itWords)[(x.kind - 1).toNat]? = some (.string ⟨⟨w⟩⟩) := by unfold strs; rw [List.getElem?_map, hw]; rfl
        have hsl : (strs itWords).length = 10 := rfl
        have hcut : List.drop (x.off : Int).toNat (List.take ((x.off : Int) + (w.length : Int)).toNat s) = w := by
          rw [show (x.off : Int).toNat = x.off by omega, show ((x.off : Int) + (w.length : Int)).toNat = x.off + w.length by omega, cut_mid, ho3]
        obtain ⟨vc, vn, vt, vf, vv, vd, e0, e1, e2, e3, e4, e5, e6, e7, e8, hcc, q1, q2, q3, q4, q5, q6, rx⟩ := hrx
        have hIs := Own.satK oh 0 rfl
        obtain ⟨y1, z1, rfl⟩ := q1.isS hIs
        obtain ⟨y2, z2, rfl⟩ := q2.isS hIs
        obtain ⟨y3, z3, rfl⟩ := q3.isS hIs
        obtain ⟨y4, z4, rfl⟩ := q4.isS hIs
        obtain ⟨y5, z5, rfl⟩ := q5.isS hIs
        obtain ⟨y6, z6, rfl⟩ := q6.isS hIs
        clear q1 q2 q3 q4 q5 q6
        have rx0 := rx
        have hBx := hB.expr
        clear hB
        have hee : ∃ k t y7 n7 z7 y8 n8 z8 y9 n9 z9 a s' g o, e0 = .int .i64 k ∧ e1 = .string ⟨⟨t⟩⟩ ∧ e2 = .slice y7 n7 z7 ∧ e3 = .slice y8 n8 z8 ∧ e4 = .slice y9 n9 z9 ∧ e5 = .string ⟨⟨a⟩⟩ ∧ e6 = .string ⟨⟨s'⟩⟩ ∧ e7 = .int .i64 g ∧ e8 = .int .i64 o := by
          generalize x.expr = ee at rx
          cases ee with
          | mk k t ks cs ns a s' g o =>
            rw [exR] at rx
            obtain ⟨uk, uc', un, he, p1, p2, ys, p3, pk⟩ := rx
            obtain ⟨y7, z7, rfl⟩ := p3.isS hIs
            obtain ⟨y8, z8, rfl⟩ := p1.isS hIs
            obtain ⟨y9, z9, rfl⟩ := p2.isS hIs
            unfold exC at he
            simp only [List.cons.injEq, and_true] at he
            obtain ⟨rfl, rfl, rfl, rfl, rfl, rfl, rfl, rfl, rfl⟩ := he
            exact ⟨_, _, _, _, _, _, _, _, _, _, _, _, _, _, _, rfl, rfl, rfl, rfl, rfl, rfl, rfl, rfl, rfl⟩
        obtain ⟨ek, et, y7, n7, z7, y8, n8, z8, y9, n9, z9, ea, es, eg, eo, rfl, rfl, rfl, rfl, rfl, rfl, rfl, rfl, rfl⟩ := hee
        clear rx
        obtain ⟨cc, hc25⟩ := cx
        dsimp only at hcc
        subst hcc
        refine StillVC.run (StillVC.fieldAddr st25 rfl rfl rfl ?_)
        refine StillVC.run (StillVC.loadO oh 1 rfl ty23 rfl rfl ?_)
        refine StillVC.run (StillVC.lenV rfl sl23 ?_)
        refine Br.dec (fun c203 => ?_) (fun hc => absurd (by omega) hc)
        refine StillVC.run (StillVC.fieldAddr st25 rfl rfl rfl ?_)
        refine StillVC.run (StillVC.loadO oh 1 rfl ty23 rfl rfl ?_)
        refine StillVC.run (StillVC.idxN sl23 ty45 qI rfl (by omega) (by omega) ?_)
        refine StillVC.run (StillVC.loadFT ty45 qI (fun y : Cells25 => y.2) (by decide) rfl hcx ?_)
        dsimp only
        unfold itC
        (refine RunVC.alloc oh ty45 ?_; intro b240 m240 o240)
        (refine RunVC.storeL o240 2 rfl ty45 rfl (by decide) (And.intro ⟨rfl, rfl⟩ ?_); intro m241 o241)
        refine StillVC.run (StillVC.fieldAddr st45 rfl rfl rfl ?_)
        refine StillVC.run (StillVC.loadO o241 2 rfl ty3 rfl rfl ?_)
        refine Br.dec (fun hc => absurd hc (by omega)) (fun c244 => ?_)
        refine StillVC.run (StillVC.fieldAddr st45 rfl rfl rfl ?_)
        refine StillVC.run (StillVC.loadO o241 2 rfl ty3 rfl rfl ?_)
        refine Br.dec (fun hc => absurd hc (by omega)) (fun c247 => ?_)
        refine DrawVC.intro [1, 3, 4, 6] [2, 5] [] [1, 2, 3, 0, 4, 5, 6] mixed (by kernel_rfl) rfl (fun _ _ _ _ h => h) ?_
        refine StillVC.fieldAddr st45 rfl rfl rfl ?_
        refine StillVC.loadO o241 2 rfl ty3 rfl rfl ?_
        refine Ar.i64 (by omega) (by omega) ?_
        refine CallVC.ret (words_spec _) ?_
        rintro vw h3 oc
        have o3 := Own.call (by assumption) oc
        simp only [List.cons_append, List.nil_append] at o3
        have ex := Own.ext oc
        clear oc
        obtain ⟨wa, wc, rfl⟩ := o3.rowIs 3 rfl
        refine ⟨ex, ?_⟩
        clear ex
        by_cases h10 : x.kind = 10
        · obtain ⟨last, ho4, ho5, ho6⟩ := heq h10
          refine StillVC.idx sl36 ty9 (o3.rowArr 3 rfl) rfl (by omega) (by omega) ?_
          refine StillVC.loadM (o3.rowArr 3 rfl) ty9 rfl (by first | assumption | rfl) ?_
          refine StillVC.run (StillVC.fieldAddr st45 rfl rfl rfl ?_)
          refine StillVC.run (StillVC.loadO o3 2 rfl ty3 rfl rfl ?_)
          refine Br.dec (fun hc => absurd hc (by omega)) (fun c304 => ?_)
          refine StillVC.run (StillVC.fieldAddr st45 rfl rfl rfl ?_)
          refine StillVC.run (StillVC.loadO o3 2 rfl ty3 rfl rfl ?_)
          refine StillVC.run (StillVC.lenS rfl str9 ?_)
          refine StillVC.run (StillVC.lenS rfl str9 ?_)
          refine Ar.i64 (by omega) (by omega) ?_
          refine Br.dec (fun hc => absurd hc (by omega)) (fun c309 => ?_)
          refine StillVC.run (StillVC.fieldAddr st45 rfl rfl rfl ?_)
          refine StillVC.run (StillVC.loadO o3 2 rfl ty3 rfl rfl ?_)
          refine StillVC.run (StillVC.fieldAddr st45 rfl rfl rfl ?_)
          refine StillVC.run (StillVC.loadO o3 2 rfl ty3 rfl rfl ?_)
          refine StillVC.run (StillVC.lenS rfl str9 ?_)
          refine Ar.i64 (by omega) (by omega) ?_
          refine StillVC.run (StillVC.sliceS str9 rfl ⟨_, rfl⟩ ⟨_, rfl⟩ (by omega) (by omega) (by omega) ?_)
          refine Br.ndec (fun hc => absurd (by first | omega | assumption | decide | exact rfl) hc) (fun c316 => ?_)
          refine StillVC.run (StillVC.fieldAddr st45 rfl rfl rfl ?_)
          refine StillVC.run (StillVC.loadO o3 2 rfl ty3 rfl rfl ?_)
          refine StillVC.run (StillVC.lenS rfl str9 ?_)
          refine Ar.i64 (by omega) (by omega) ?_
          refine StillVC.run (StillVC.fieldAddr st45 rfl rfl rfl ?_)
          refine StillVC.run (StillVC.loadO o3 2 rfl ty3 rfl rfl ?_)
          refine Br.ndec (fun hc => absurd (by first | omega | assumption | decide | exact rfl) hc) (fun c322 => ?_)
          refine StillVC.run (StillVC.fieldAddr st45 rfl rfl rfl ?_)
          refine StillVC.run (StillVC.loadON o3 2 rfl ty43 rfl rfl rfl ?_)
          refine CallVC.ret (ordered_spec s (by omega) I (exDep x.expr) x.expr _ _ (x.off + w.length) last _ (by omega) (Nat.le_refl _) hBx rx0 (Own.satE o3 0 rfl) ho4 (by omega)) ?_
          rintro _ h5 ⟨rfl, oc⟩
          have o5 := oc.thenE o3
          clear oc
          refine Br.ff ?_
          refine Ar.i64 (by omega) (by omega) ?_
          refine Ar.i64 (by omega) (by omega) ?_
          refine ⟨rfl, ?_⟩
          exact ⟨⟨i + 1, last + 1, by omega, by omega, ho6, rfl, Own.sel (by assumption) [0, 1] rfl⟩, by simp; omega⟩
        · have ho4 := hne h10
          refine StillVC.idx sl36 ty9 (o3.rowArr 3 rfl) rfl (by omega) (by omega) ?_
          refine StillVC.loadM (o3.rowArr 3 rfl) ty9 rfl (by first | assumption | rfl) ?_
          refine StillVC.run (StillVC.fieldAddr st45 rfl rfl rfl ?_)
          refine StillVC.run (StillVC.loadO o3 2 rfl ty3 rfl rfl ?_)
          refine Br.dec (fun hc => absurd hc (by omega)) (fun c404 => ?_)
          refine StillVC.run (StillVC.fieldAddr st45 rfl rfl rfl ?_)
          refine StillVC.run (StillVC.loadO o3 2 rfl ty3 rfl rfl ?_)
          refine StillVC.run (StillVC.lenS rfl str9 ?_)
          refine StillVC.run (StillVC.lenS rfl str9 ?_)
          refine Ar.i64 (by omega) (by omega) ?_
          refine Br.dec (fun hc => absurd hc (by omega)) (fun c409 => ?_)
          refine StillVC.run (StillVC.fieldAddr st45 rfl rfl rfl ?_)
          refine StillVC.run (StillVC.loadO o3 2 rfl ty3 rfl rfl ?_)
          refine StillVC.run (StillVC.fieldAddr st45 rfl rfl rfl ?_)
          refine StillVC.run (StillVC.loadO o3 2 rfl ty3 rfl rfl ?_)
          refine StillVC.run (StillVC.lenS rfl str9 ?_)
          refine Ar.i64 (by omega) (by omega) ?_
          refine StillVC.run (StillVC.sliceS str9 rfl ⟨_, rfl⟩ ⟨_, rfl⟩ (by omega) (by omega) (by omega) ?_)
          refine Br.ndec (fun hc => absurd (by first | omega | assumption | decide | exact rfl) hc) (fun c416 => ?_)
          refine StillVC.run (StillVC.fieldAddr st45 rfl rfl rfl ?_)
          refine StillVC.run (StillVC.loadO o3 2 rfl ty3 rfl rfl ?_)
          refine StillVC.run (StillVC.lenS rfl str9 ?_)
          refine Ar.i64 (by omega) (by omega) ?_
          refine StillVC.run (StillVC.fieldAddr st45 rfl rfl rfl ?_)
          refine StillVC.run (StillVC.loadO o3 2 rfl ty3 rfl rfl ?_)
          refine Br.ndec (fun c422 => ?_) (fun hc => absurd hc (by first | omega | assumption | decide | exact rfl))
          refine Ar.i64 (by omega) (by omega) ?_
          refine ⟨rfl, ?_⟩
          exact ⟨⟨i + 1, x.off + w.length, by omega, by omega, ho4, rfl, Own.sel (by assumption) [0, 1] rfl⟩, by simp; omega⟩
      · refine StillVC.run (StillVC.fieldAddr st25 rfl rfl rfl ?_)
        refine StillVC.run (StillVC.loadO oh 1 rfl ty23 rfl rfl ?_)
        refine StillVC.run (StillVC.lenV rfl sl23 ?_)
        refine Br.dec (fun hc => absurd hc (by omega)) (fun c503 => ?_)
        refine RetVC.one rfl ?_
        exact ⟨rfl, Own.sel (by assumption) [] rfl⟩

end Go.Proofs.YtnmfanjhepepbaaDoor
