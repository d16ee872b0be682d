/-
  The reference of chapter 1: texts and their parsing.
-/
import Derived.Test.YtemijanhigjmmaaDoorStructs
import Derived.Test.YtemijanhigjmmaaDoorFnRatRef
namespace Go.Proofs.YtemijanhigjmmaaDoor
open Go

/-- The digits ahead of the last one. -/
def preD (n : Nat) : List UInt8 := if n < 10 then [] else Lib.decDigits (n / 10)

theorem dec_pre (n : Nat) : Lib.decDigits n = preD n ++ [UInt8.ofNat (48 + n % 10)] := by
  unfold preD
  by_cases h : n < 10
  · rw [if_pos h, Lib.decDigits_one h, Nat.mod_eq_of_lt h]
    rfl
  · rw [if_neg h, Lib.decDigits, dif_neg h]

theorem dig_bytes (u : Nat) : [Value.int .u8 (48 + (u : Int) % 10)] = bytes [UInt8.ofNat (48 + u % 10)] := by
  simp only [List.map_cons, List.map_nil, List.cons.injEq, and_true]
  rw [digit_toNat (by omega)]
  congr 1

set_option maxRecDepth 100000 in
theorem digitsRef_spec (u : Nat) (h : Heap) (hu : u < 18446744073709551616) :
    SpecR Tryd.prog 45 [.int .u64 u] h fun r h' => r = .string ⟨⟨Lib.decDigits u⟩⟩ ∧ Own h [] h' := by
  have hlen := decDigits_short u hu
  refine Spec.enter Tryd.func45 rfl Tryd.ntmps45 (by kernel_rfl) ?_
  have o0 := Own.refl h
  refine StillVC.run (StillVC.remE rfl rfl (by omega) (by omega) ?_)
  refine Ar.u64 (by omega) (by omega) ?_
  refine StillVC.run (StillVC.convI rfl int28 int5 ?_)
  refine Ar.u8 (by omega) (by omega) ?_
  (refine RunVC.lit o0 sl62 ty5 rfl rfl (by decide) (And.intro rfl ?_); intro b12 m12 o12)
  refine StillVC.run (StillVC.bytesStr (l := [UInt8.ofNat (48 + u % 10)]) (by rw [← dig_bytes]; exact o12.boxArr 0 rfl rfl (Nat.le_refl _)) sl62 int5 str9 ?_)
  refine LoopVC.intro [0, 3, 10, 11, 12, 13, 14, 15, 16, 17, 18, 19, 20, 21] [0, 3] (fun vs hh => ∃ (n : Nat) (x : List UInt8), n < 18446744073709551616 ∧ vs = [.int .u64 n, .string ⟨⟨x⟩⟩] ∧ Lib.decDigits u = preD n ++ x ∧ Own h [] hh) (fun vs _ => match vs with | [.int _ n, _] => n.toNat | _ => 0) ?_ ?_
  · exact ⟨u, _, hu, rfl, dec_pre u, Own.sel (by assumption) [] rfl⟩
  · rintro vs junk hh ⟨n, x, hn, rfl, he, oh⟩
    have hxl : x.length ≤ 20 := by
      have := congrArg List.length he
      rw [List.length_append] at this
      omega
    by_cases h9 : 9 < n
    · refine Br.dec (fun c30 => ?_) (fun hc => absurd (by omega) hc)
      refine StillVC.run (StillVC.quoE rfl rfl (by omega) (by omega) (by simp [IntKind.max, IntKind.signed, IntKind.bits]; omega) ?_)
      refine StillVC.run (StillVC.remE rfl rfl (by omega) (by omega) ?_)
      refine Ar.u64 (by omega) (by omega) ?_
      refine StillVC.run (StillVC.convI rfl int28 int5 ?_)
      refine Ar.u8 (by omega) (by omega) ?_
      (refine RunVC.lit oh sl62 ty5 rfl rfl (by decide) (And.intro rfl ?_); intro b34 m34 o34)
      refine StillVC.run (StillVC.bytesStr (l := [UInt8.ofNat (48 + n / 10 % 10)]) (by rw [← dig_bytes, Int.natCast_ediv]; exact o34.boxArr 0 rfl rfl (Nat.le_refl _)) sl62 int5 str9 ?_)
      refine StillVC.run (StillVC.strAdd rfl rfl (by first | omega | (simp; omega)) ?_)
      refine ⟨rfl, ?_⟩
      have hpre : preD n = preD (n / 10) ++ [UInt8.ofNat (48 + n / 10 % 10)] := by
        rw [← dec_pre]
        exact if_neg (by omega)
      exact ⟨⟨n / 10, _, by omega, rfl, by rw [he, hpre, List.append_assoc], Own.sel (by assumption) [] rfl⟩, by simp; omega⟩
    · have : preD n = [] := if_pos (by omega)
      rw [this, List.nil_append] at he
      rw [he]
      refine Br.dec (fun hc => absurd hc (by omega)) (fun c60 => ?_)
      refine RetVC.one rfl ?_
      exact ⟨rfl, oh⟩

set_option maxRecDepth 100000 in
theorem textRef_spec (a : Int × Int) (h : Heap) (ha : i64P a) :
    SpecR Tryd.prog 30 [ratV a] h fun v h' => v = .string ⟨⟨textR a⟩⟩ ∧ Own h [] h' := by
  obtain ⟨a1, a2⟩ := a
  unfold textR
  show SpecR Tryd.prog 30 [.agg ⟨[.int .i64 a1, .int .i64 a2]⟩] h _
  refine Spec.enter Tryd.func30 rfl Tryd.ntmps30 (by kernel_rfl) ?_
  have o0 := Own.refl h
  (refine RunVC.boxO o0 rfl ?_; intro b10 m10 o10)
  refine StillVC.run (StillVC.loadON o10 0 rfl ty24 rfl rfl rfl ?_)
  refine CallVC.ret (validR_spec (a1, a2) _ ha) ?_
  rintro _ h1 ⟨rfl, oa⟩
  have o1 := oa.thenE (by assumption)
  cases ka : okP (a1, a2) with
  | false =>
    rw [if_neg (by decide)]
    refine Br.tt ?_
    refine RetVC.one rfl ?_
    exact ⟨rfl, Own.sel (by assumption) [] rfl⟩
  | true =>
    obtain ⟨q0, q1, p0, p1⟩ := okP_rng ka
    simp only at q0 q1 p0 p1
    rw [if_pos rfl]
    refine Br.ff ?_
    refine StillVC.run (StillVC.fieldAddr st24 rfl rfl rfl ?_)
    refine StillVC.run (StillVC.loadO o1 0 rfl ty3 rfl rfl ?_)
    refine CallVC.ret (size_spec a1 _ (by omega) (by omega)) ?_
    rintro _ h2 ⟨rfl, ob⟩
    have o2 := ob.thenE (by assumption)
    have l1 := decDigits_short a1.natAbs (by omega)
    have l2 := decDigits_short a2.natAbs (by omega)
    refine CallVC.ret (digitsRef_spec a1.natAbs _ (by omega)) ?_
    rintro _ h3 ⟨rfl, oc⟩
    have o3 := oc.thenE (by assumption)
    have e2 : Lib.itoa a2 = Lib.decDigits a2.natAbs := by
      rw [Lib.itoa, if_neg (by omega)]
      congr 1
      omega
    have e1 : Lib.itoa a1 = if a1 < 0 then 45 :: Lib.decDigits a1.natAbs else Lib.decDigits a1.natAbs := by
      rw [Lib.itoa]
      by_cases hn : a1 < 0
      · rw [if_pos hn, if_pos hn]
      · rw [if_neg hn, if_neg hn]
        congr 1
        omega
    rw [e1, e2]
    by_cases hn : a1 < 0
    · rw [if_pos hn]
      by_cases hd : 1 < a2
      · rw [if_pos hd]
        refine StillVC.run (StillVC.fieldAddr st24 rfl rfl rfl ?_)
        refine StillVC.run (StillVC.loadO o3 0 rfl ty3 rfl rfl ?_)
        refine Br.dec (fun c52 => ?_) (fun hc => absurd (by omega) hc)
        refine StillVC.run (StillVC.strAdd rfl rfl (by first | omega | (simp; omega)) ?_)
        refine StillVC.run (StillVC.fieldAddr st24 rfl rfl rfl ?_)
        refine StillVC.run (StillVC.loadO o3 0 rfl ty3 rfl rfl ?_)
        refine Br.ndec (fun c56 => ?_) (fun hc => absurd hc (by first | omega | assumption | decide | exact rfl))
        refine StillVC.run (StillVC.strAdd rfl rfl (by first | omega | (simp; omega)) ?_)
        refine StillVC.run (StillVC.fieldAddr st24 rfl rfl rfl ?_)
        refine StillVC.run (StillVC.loadO o3 0 rfl ty3 rfl rfl ?_)
        refine CallVC.ret (size_spec a2 _ (by omega) (by omega)) ?_
        rintro _ h4 ⟨rfl, od⟩
        have o4 := od.thenE (by assumption)
        refine CallVC.ret (digitsRef_spec a2.natAbs _ (by omega)) ?_
        rintro _ h5 ⟨rfl, oe⟩
        have o5 := oe.thenE (by assumption)
        refine StillVC.run (StillVC.strAdd rfl rfl (by first | omega | (simp; omega)) ?_)
        refine RetVC.one rfl ?_
        exact ⟨by simp, Own.sel (by assumption) [] rfl⟩
      · rw [if_neg hd]
        refine StillVC.run (StillVC.fieldAddr st24 rfl rfl rfl ?_)
        refine StillVC.run (StillVC.loadO o3 0 rfl ty3 rfl rfl ?_)
        refine Br.dec (fun c82 => ?_) (fun hc => absurd (by omega) hc)
        refine StillVC.run (StillVC.strAdd rfl rfl (by first | omega | (simp; omega)) ?_)
        refine StillVC.run (StillVC.fieldAddr st24 rfl rfl rfl ?_)
        refine StillVC.run (StillVC.loadO o3 0 rfl ty3 rfl rfl ?_)
        refine Br.ndec (fun hc => absurd (by first | omega | assumption | decide | exact rfl) hc) (fun c86 => ?_)
        refine RetVC.one rfl ?_
        exact ⟨by simp, Own.sel (by assumption) [] rfl⟩
    · rw [if_neg hn]
      by_cases hd : 1 < a2
      · rw [if_pos hd]
        refine StillVC.run (StillVC.fieldAddr st24 rfl rfl rfl ?_)
        refine StillVC.run (StillVC.loadO o3 0 rfl ty3 rfl rfl ?_)
        refine Br.dec (fun hc => absurd hc (by omega)) (fun c152 => ?_)
        refine StillVC.run (StillVC.fieldAddr st24 rfl rfl rfl ?_)
        refine StillVC.run (StillVC.loadO o3 0 rfl ty3 rfl rfl ?_)
        refine Br.ndec (fun c155 => ?_) (fun hc => absurd hc (by first | omega | assumption | decide | exact rfl))
        refine StillVC.run (StillVC.strAdd rfl rfl (by first | omega | (simp; omega)) ?_)
        refine StillVC.run (StillVC.fieldAddr st24 rfl rfl rfl ?_)
        refine StillVC.run (StillVC.loadO o3 0 rfl ty3 rfl rfl ?_)
        refine CallVC.ret (size_spec a2 _ (by omega) (by omega)) ?_
        rintro _ h4 ⟨rfl, od⟩
        have o4 := od.thenE (by assumption)
        refine CallVC.ret (digitsRef_spec a2.natAbs _ (by omega)) ?_
        rintro _ h5 ⟨rfl, oe⟩
        have o5 := oe.thenE (by assumption)
        refine StillVC.run (StillVC.strAdd rfl rfl (by first | omega | (simp; omega)) ?_)
        refine RetVC.one rfl ?_
        exact ⟨by simp, Own.sel (by assumption) [] rfl⟩
      · rw [if_neg hd]
        refine StillVC.run (StillVC.fieldAddr st24 rfl rfl rfl ?_)
        refine StillVC.run (StillVC.loadO o3 0 rfl ty3 rfl rfl ?_)
        refine Br.dec (fun hc => absurd hc (by omega)) (fun c182 => ?_)
        refine StillVC.run (StillVC.fieldAddr st24 rfl rfl rfl ?_)
        refine StillVC.run (StillVC.loadO o3 0 rfl ty3 rfl rfl ?_)
        refine Br.ndec (fun hc => absurd (by first | omega | assumption | decide | exact rfl) hc) (fun c185 => ?_)
        refine RetVC.one rfl ?_
        exact ⟨by simp, Own.sel (by assumption) [] rfl⟩

/-- The value of the digits of a text; 0 if it has none, more than 11, or another byte. -/
def numR (l : List UInt8) : Nat := if (∀ c ∈ l, 48 ≤ c.toNat ∧ c.toNat ≤ 57) ∧ l.length ≤ 11 then undec l else 0

theorem undec_step (l : List UInt8) (c : UInt8) : undec (l ++ [c]) = undec l * 10 + (c.toNat - 48) := by
  unfold undec
  rw [List.foldl_append]
  rfl

theorem undec_lt (l : List UInt8) (h : ∀ c ∈ l, c.toNat ≤ 57) : undec l < 10 ^ l.length := by
  induction hn : l.length generalizing l with
  | zero =>
    have : l = [] := List.eq_nil_of_length_eq_zero hn
    subst this
    decide
  | succ n ih =>
    obtain ⟨x, c, rfl⟩ : ∃ x c, l = x ++ [c] := ⟨l.dropLast, l.getLast (by rintro rfl; simp at hn), by rw [List.dropLast_concat_getLast]⟩
    have h1 := ih x (fun d hd => h d (by simp [hd])) (by simpa using hn)
    have h2 := h c (by simp)
    rw [undec_step, Nat.pow_succ]
    omega

theorem undec_small {l : List UInt8} (h : ∀ c ∈ l, c.toNat ≤ 57) (hl : l.length ≤ 11) : undec l < 100000000000 := by
  have h1 := undec_lt l h
  have h2 : 10 ^ l.length ≤ 10 ^ 11 := Nat.pow_le_pow_right (by decide) hl
  omega

theorem u8_le (c : UInt8) : c.toNat ≤ 255 := by have := c.toNat_lt; omega

set_option maxRecDepth 100000 in
theorem number_spec (l : List UInt8) (h : Heap) (hl : l.length ≤ 1000000) :
    SpecR Tryd.prog 44 [.string ⟨⟨l⟩⟩] h fun v h' => v = .int .i64 (numR l) ∧ Own h [] h' := by
  refine Spec.enter Tryd.func44 rfl Tryd.ntmps44 (by kernel_rfl) ?_
  have o0 := Own.refl h
  refine LoopVC.intro [2, 3, 4, 5, 6, 7, 8, 9, 10, 11, 12, 13, 14, 15, 16, 17, 18, 19, 20, 21, 22, 23, 24, 25, 26, 27, 28, 29, 30, 31, 32, 33] [3, 4] (fun vs hh => hh = h ∧ ∃ (i : Nat), i ≤ l.length ∧ vs = [.int .i64 (undec (l.take i)), .int .i64 i] ∧ (∀ c ∈ l.take i, 48 ≤ c.toNat ∧ c.toNat ≤ 57) ∧ (0 < i → l.length ≤ 11)) (fun vs _ => match vs with | [_, .int _ i] => l.length - i.toNat | _ => 0) ?_ ?_
  · exact ⟨rfl, 0, by omega, by rfl, by simp, by simp⟩
  · rintro vs junk hh ⟨rfl, i, hi, rfl, hd, h11⟩
    by_cases hlt : i < l.length
    · obtain ⟨c, hc⟩ := getx hlt
      have hcl := u8_le c
      have hb := undec_small (l := l.take i) (fun d hm => (hd d hm).2) (by
        by_cases h0 : 0 < i
        · have := h11 h0; simp; omega
        · have : i = 0 := by omega
          subst this; simp)
      have hmem : c ∈ l := List.mem_of_getElem? hc
      by_cases hok : (48 ≤ c.toNat ∧ c.toNat ≤ 57) ∧ l.length ≤ 11
      · obtain ⟨⟨k1, k2⟩, k3⟩ := hok
        refine StillVC.run (StillVC.lenS rfl str9 ?_)
        refine Br.dec (fun c21 => ?_) (fun hc => absurd (by omega) hc)
        refine StillVC.run (StillVC.strIdx rfl rfl str9 (by omega) (by assumption) ?_)
        refine Br.dec (fun hc => absurd hc (by omega)) (fun c23 => ?_)
        refine StillVC.run (StillVC.strIdx rfl rfl str9 (by omega) (by assumption) ?_)
        refine Br.dec (fun hc => absurd hc (by omega)) (fun c25 => ?_)
        refine StillVC.run (StillVC.lenS rfl str9 ?_)
        refine Br.dec (fun hc => absurd hc (by omega)) (fun c27 => ?_)
        refine Ar.i64 (by omega) (by omega) ?_
        refine StillVC.run (StillVC.strIdx rfl rfl str9 (by omega) (by assumption) ?_)
        refine Ar.u8 (by omega) (by omega) ?_
        refine StillVC.run (StillVC.convI rfl int5 int3 ?_)
        refine Ar.i64 (by omega) (by omega) ?_
        refine Ar.i64 (by omega) (by omega) ?_
        refine Ar.i64 (by omega) (by omega) ?_
        refine ⟨rfl, ?_⟩
        refine ⟨⟨rfl, i + 1, by omega, ?_, ?_, fun _ => k3⟩, by simp; omega⟩
        · rw [List.take_add_one, hc]
          show _ = [Value.int .i64 (undec (l.take i ++ [c]) : Nat), _]
          rw [undec_step]
          congr 2
          omega
        · intro d hm
          rw [List.take_add_one, hc] at hm
          rcases List.mem_append.1 hm with hm | hm
          · exact hd d hm
          · simp at hm; subst hm; exact ⟨k1, k2⟩
      · have hno : numR l = 0 := if_neg (fun hh => hok ⟨hh.1 c hmem, hh.2⟩)
        rw [hno]
        refine StillVC.run (StillVC.lenS rfl str9 ?_)
        refine Br.dec (fun c41 => ?_) (fun hc => absurd (by omega) hc)
        refine StillVC.run (StillVC.strIdx rfl rfl str9 (by omega) (by assumption) ?_)
        refine Br.dec (fun c43 => ?_) (fun c43 => ?_)
        refine Br.tt ?_
        refine RetVC.one rfl ?_
        rotate_left
        refine StillVC.run (StillVC.strIdx rfl rfl str9 (by omega) (by assumption) ?_)
        refine Br.dec (fun c45 => ?_) (fun c45 => ?_)
        refine Br.tt ?_
        refine RetVC.one rfl ?_
        rotate_left
        refine StillVC.run (StillVC.lenS rfl str9 ?_)
        refine Br.dec (fun c47 => ?_) (fun hc => absurd (by omega) hc)
        refine RetVC.one rfl ?_
        all_goals first | exact ⟨rfl, o0⟩ | (exfalso; omega)
    · have hii : i = l.length := by omega
      subst hii
      rw [List.take_length] at hd
      have hlen : l.length ≤ 11 := by
        by_cases h0 : 0 < l.length
        · exact h11 h0
        · omega
      have hno : numR l = undec l := if_pos ⟨hd, hlen⟩
      rw [hno, List.take_length]
      refine StillVC.run (StillVC.lenS rfl str9 ?_)
      refine Br.dec (fun hc => absurd hc (by omega)) (fun c61 => ?_)
      refine RetVC.one rfl ?_
      exact ⟨rfl, o0⟩

/- PARSING -/
def seemF (t : List UInt8) : Int × Int :=
  (if (Lib.cut t [47]).1.head? = some 45 then -(numR (Lib.cut t [47]).1.tail : Int) else numR (Lib.cut t [47]).1, if (Lib.cut t [47]).2.2 = true then (numR (Lib.cut t [47]).2.1 : Int) else 1)

theorem numR_dec (u : Nat) (h : u ≤ 1000000000) : numR (Lib.decDigits u) = u := by
  unfold numR
  have hl : (Lib.decDigits u).length ≤ 10 := by
    rw [Lib.decDigits_length]
    exact nDigits_le 9 u (by omega)
  rw [if_pos ⟨dec_digits u, by omega⟩, undec_dec]

theorem seemF_itoa (n : Int) (h0 : -1000000000 ≤ n) (h1 : n ≤ 1000000000) : (if (Lib.itoa n).head? = some 45 then -(numR (Lib.itoa n).tail : Int) else numR (Lib.itoa n)) = n := by
  unfold Lib.itoa
  by_cases hn : n < 0
  · rw [if_pos hn]
    simp only [List.head?_cons, if_true, List.tail_cons]
    rw [numR_dec _ (by omega)]
    omega
  · rw [if_neg hn]
    have hne : (Lib.decDigits n.toNat).head? ≠ some 45 := by
      intro e
      have := dec_digits n.toNat 45 (List.mem_of_mem_head? e)
      simp at this
    rw [if_neg hne, numR_dec _ (by omega)]
    omega

theorem seemF_text {a : Int × Int} (h : okP a = true) : seemF (textR a) = a := by
  obtain ⟨q0, q1, p0, p1⟩ := okP_rng h
  unfold textR
  rw [if_pos h]
  obtain ⟨x, y⟩ := a
  simp only at q0 q1 p0 p1 ⊢
  by_cases hd : 1 < y
  · rw [if_pos hd]
    unfold seemF
    rw [cut_split _ _ (notMem_itoa _)]
    simp only [if_true]
    rw [seemF_itoa x p0 p1]
    have : Lib.itoa y = Lib.decDigits y.toNat := by rw [Lib.itoa, if_neg (by omega)]
    rw [this, numR_dec _ (by omega)]
    congr 1
    omega
  · rw [if_neg hd]
    unfold seemF
    rw [cut_no _ (notMem_itoa _)]
    simp only [Bool.false_eq_true, if_false]
    rw [seemF_itoa x p0 p1, show y = 1 by omega]

theorem parseF_eq (t : List UInt8) : (if t ≠ [] ∧ textR (seemF t) = t then (seemF t, (0 : Int)) else ((0, 0), 6)) = parseP t := by
  rcases parseP_cases t with ⟨a, ha, he, hp⟩ | ⟨hp, hno⟩
  · have hs : seemF t = a := by rw [← he]; exact seemF_text ha
    have hne : t ≠ [] := fun e => by
      rw [e] at he
      have := (textR_nil a).1 he
      rw [ha] at this
      cases this
    rw [hs, hp, if_pos ⟨hne, he⟩]
  · rw [hp, if_neg]
    rintro ⟨h1, h2⟩
    cases hk : okP (seemF t) with
    | true => exact hno _ hk h2
    | false => exact h1 (by rw [← h2]; exact (textR_nil _).2 hk)

theorem numR_rng (l : List UInt8) : (numR l : Int) < 100000000000 := by
  unfold numR
  split
  · rename_i h
    have := undec_small (l := l) (fun c hc => (h.1 c hc).2) h.2
    omega
  · decide

set_option maxHeartbeats 4000000 in
set_option maxRecDepth 100000 in
theorem parseRef_spec (t : List UInt8) (h : Heap) (hl : t.length ≤ 1000000) :
    SpecR Tryd.prog 22 [.string ⟨⟨t⟩⟩] h fun v h' => v = ratE (parseP t) ∧ Own h [] h' := by
  rw [← parseF_eq]
  refine Spec.enter Tryd.func22 rfl Tryd.ntmps22 (by kernel_rfl) ?_
  have o0 := Own.refl h
  (refine RunVC.alloc o0 ty24 ?_; intro b10 m10 o10)
  refine StillVC.run (StillVC.buildK st24 ?_)
  refine And.intro rfl ?_
  (refine RunVC.alloc o10 ty24 ?_; intro b12 m12 o12)
  (refine RunVC.storeL o12 1 rfl ty24 rfl (by decide) (And.intro ⟨rfl, rfl⟩ ?_); intro m13 o13)
  refine StillVC.run (StillVC.lenS rfl str9 ?_)
  refine LoopVC.intro [5, 6, 10, 11, 12, 13, 14, 15, 16, 17, 18, 19, 20, 21, 22, 23, 24, 25, 26] [5, 6] (fun vs hh => hh = m13 ∧ ∃ (i : Nat), i ≤ t.length ∧ vs = [.int .i64 t.length, .int .i64 i] ∧ (47 : UInt8) ∉ t.take i) (fun vs _ => match vs with | [_, .int _ i] => t.length - i.toNat | _ => 0) ?_ ?_
  · exact ⟨rfl, 0, by omega, rfl, by simp⟩
  · rintro vs junk hh ⟨rfl, i, hi, rfl, hno⟩
    by_cases hlt : i < t.length
    · obtain ⟨c, hc⟩ := getx hlt
      have hsp : t = t.take i ++ c :: t.drop (i + 1) := by
        obtain ⟨hi', he'⟩ := List.getElem?_eq_some_iff.1 hc
        rw [← he', ← List.drop_eq_getElem_cons hi', List.take_append_drop]
      by_cases h47 : c = 47
      · subst h47
        have hcut : Lib.cut t [47] = (t.take i, t.drop (i + 1), true) := by
          conv => lhs; rw [hsp]
          exact cut_split _ _ hno
        refine StillVC.run (StillVC.lenS rfl str9 ?_)
        refine Br.dec (fun c21 => ?_) (fun hc => absurd (by omega) hc)
        refine StillVC.run (StillVC.strIdx rfl rfl str9 (by omega) (by assumption) ?_)
        refine Br.tt ?_
        refine Ar.i64 (by omega) (by omega) ?_
        refine StillVC.run (StillVC.sliceS str9 rfl ⟨_, rfl⟩ rfl (by omega) (by omega) (by omega) ?_)
        rw [show List.drop ((i : Int) + 1).toNat (List.take (Int.toNat (t.length : Nat)) t) = t.drop (i + 1) by rw [show ((i : Int) + 1).toNat = i + 1 by omega]; simp]
        refine CallVC.ret (number_spec (t.drop (i + 1)) _ (by first | omega | (simp; omega))) ?_
        rintro _ h20 ⟨rfl, oc20⟩
        have p20 := oc20.thenE (by assumption)
        have hdr := numR_rng (t.drop (i + 1))
        have hne : t ≠ [] := by rintro rfl; simp at hlt
        by_cases he0 : i = 0
        · skip
          have hn0 : t.take (i) = [] := by rw [he0]; rfl
          refine StillVC.run (StillVC.fieldAddr st24 rfl rfl rfl ?_)
          (refine RunVC.storeL p20 1 rfl ty3 rfl (by decide) (And.intro ⟨rfl, rfl⟩ ?_); intro m121 o121)
          refine Br.dec (fun hc => absurd hc (by omega)) (fun c122 => ?_)
          refine Br.ff ?_
          refine StillVC.run (StillVC.sliceS str9 rfl rfl ⟨_, rfl⟩ (by omega) (by omega) (by omega) ?_)
          rw [show List.drop (Int.toNat 0) (List.take (Int.toNat (i : Nat)) t) = t.take (i) by simp]
          refine CallVC.ret (number_spec (t.take (i)) _ (by first | omega | (simp; omega))) ?_
          rintro _ h31 ⟨rfl, oc31⟩
          have p31 := oc31.thenE (by assumption)
          have hs : seemF t = ((numR (t.take (i)) : Int), (numR (t.drop (i + 1)) : Int)) := by unfold seemF; rw [hcut]; simp [hn0]
          rw [hs]
          refine StillVC.run (StillVC.fieldAddr st24 rfl rfl rfl ?_)
          (refine RunVC.store p31 1 rfl ty3 rfl (by simp) (And.intro ⟨rfl, rfl⟩ ?_); intro m141 o141)
          refine Br.dec (fun hc => absurd hc (by omega)) (fun c142 => ?_)
          refine StillVC.run (StillVC.loadON o141 1 rfl ty24 rfl rfl rfl ?_)
          refine CallVC.ret (textRef_spec ((numR (t.take (i)) : Int), (numR (t.drop (i + 1)) : Int)) _ ⟨⟨by first | omega | (simp only; omega), by simp only; have := numR_rng (t.take (i)); omega⟩, ⟨by first | omega | (simp only; omega), by first | omega | (simp only; omega)⟩⟩) ?_
          rintro _ h32 ⟨rfl, oc32⟩
          have p32 := oc32.thenE (by assumption)
          by_cases he : textR ((numR (t.take (i)) : Int), (numR (t.drop (i + 1)) : Int)) = t
          · rw [if_pos ⟨hne, he⟩]
            refine Br.ndec (fun hc => absurd (by first | omega | assumption | decide | exact rfl) hc) (fun c160 => ?_)
            refine StillVC.run (StillVC.loadON p32 1 rfl ty24 rfl rfl rfl ?_)
            (refine RunVC.storeL p32 0 rfl ty24 rfl (by decide) (And.intro ⟨rfl, rfl⟩ ?_); intro m162 o162)
            first | refine RetVC.cell2 rfl o162 0 rfl ty24 rfl rfl ?_ | refine RetVC.cell1 rfl o162 0 rfl ty24 rfl rfl ?_
            exact ⟨rfl, Own.sel (by assumption) [] rfl⟩
          · rw [if_neg (fun hc => he hc.2)]
            refine Br.ndec (fun c180 => ?_) (fun hc => absurd hc (by first | omega | assumption | decide | exact rfl))
            refine StillVC.run (StillVC.buildK st24 ?_)
            (refine RunVC.storeL p32 0 rfl ty24 rfl (by decide) (And.intro ⟨rfl, rfl⟩ ?_); intro m182 o182)
            first | refine RetVC.cell2 rfl o182 0 rfl ty24 rfl rfl ?_ | refine RetVC.cell1 rfl o182 0 rfl ty24 rfl rfl ?_
            exact ⟨rfl, Own.sel (by assumption) [] rfl⟩
        · obtain ⟨c0, hc0⟩ := getx (show 0 < t.length by omega)
          have hhd : (t.take (i)).head? = some c0 := by rw [List.head?_take, if_neg he0, List.head?_eq_getElem?]; exact hc0
          by_cases h45 : c0 = 45
          · have h45n : (c0.toNat : Int) = 45 := by rw [h45]; rfl
            refine StillVC.run (StillVC.fieldAddr st24 rfl rfl rfl ?_)
            (refine RunVC.storeL p20 1 rfl ty3 rfl (by decide) (And.intro ⟨rfl, rfl⟩ ?_); intro m201 o201)
            refine Br.dec (fun c202 => ?_) (fun hc => absurd (by omega) hc)
            refine StillVC.run (StillVC.strIdx rfl rfl str9 (by omega) (by assumption) ?_)
            refine Br.dec (fun c204 => ?_) (fun hc => absurd (by omega) hc)
            refine StillVC.run (StillVC.sliceS str9 rfl ⟨_, rfl⟩ ⟨_, rfl⟩ (by omega) (by omega) (by omega) ?_)
            rw [show List.drop (Int.toNat 1) (List.take (Int.toNat (i : Nat)) t) = (t.take (i)).tail by simp]
            refine CallVC.ret (number_spec ((t.take (i)).tail) _ (by first | omega | (simp; omega))) ?_
            rintro _ h33 ⟨rfl, oc33⟩
            have p33 := oc33.thenE (by assumption)
            have hnr := numR_rng (t.take (i)).tail
            have hs : seemF t = (0 - (numR (t.take (i)).tail : Int), (numR (t.drop (i + 1)) : Int)) := by unfold seemF; rw [hcut]; simp only [hhd, h45, if_true, Int.zero_sub]; try first | rfl | simp
            rw [hs]
            refine Ar.i64 (by omega) (by omega) ?_
            refine StillVC.run (StillVC.fieldAddr st24 rfl rfl rfl ?_)
            (refine RunVC.store p33 1 rfl ty3 rfl (by simp) (And.intro ⟨rfl, rfl⟩ ?_); intro m221 o221)
            refine Br.dec (fun hc => absurd hc (by omega)) (fun c222 => ?_)
            refine StillVC.run (StillVC.loadON o221 1 rfl ty24 rfl rfl rfl ?_)
            refine CallVC.ret (textRef_spec (0 - (numR (t.take (i)).tail : Int), (numR (t.drop (i + 1)) : Int)) _ ⟨⟨by first | omega | (simp only; omega), by first | omega | (simp only; omega)⟩, ⟨by first | omega | (simp only; omega), by first | omega | (simp only; omega)⟩⟩) ?_
            rintro _ h34 ⟨rfl, oc34⟩
            have p34 := oc34.thenE (by assumption)
            by_cases he : textR (0 - (numR (t.take (i)).tail : Int), (numR (t.drop (i + 1)) : Int)) = t
            · rw [if_pos ⟨hne, he⟩]
              refine Br.ndec (fun hc => absurd (by first | omega | assumption | decide | exact rfl) hc) (fun c240 => ?_)
              refine StillVC.run (StillVC.loadON p34 1 rfl ty24 rfl rfl rfl ?_)
              (refine RunVC.storeL p34 0 rfl ty24 rfl (by decide) (And.intro ⟨rfl, rfl⟩ ?_); intro m242 o242)
              first | refine RetVC.cell2 rfl o242 0 rfl ty24 rfl rfl ?_ | refine RetVC.cell1 rfl o242 0 rfl ty24 rfl rfl ?_
              exact ⟨rfl, Own.sel (by assumption) [] rfl⟩
            · rw [if_neg (fun hc => he hc.2)]
              refine Br.ndec (fun c260 => ?_) (fun hc => absurd hc (by first | omega | assumption | decide | exact rfl))
              refine StillVC.run (StillVC.buildK st24 ?_)
              (refine RunVC.storeL p34 0 rfl ty24 rfl (by decide) (And.intro ⟨rfl, rfl⟩ ?_); intro m262 o262)
              first | refine RetVC.cell2 rfl o262 0 rfl ty24 rfl rfl ?_ | refine RetVC.cell1 rfl o262 0 rfl ty24 rfl rfl ?_
              exact ⟨rfl, Own.sel (by assumption) [] rfl⟩
          · have h45n : ¬ (c0.toNat : Int) = 45 := fun e => h45 (UInt8.toNat_inj.1 (by have : (45 : UInt8).toNat = 45 := rfl; omega))
            refine StillVC.run (StillVC.fieldAddr st24 rfl rfl rfl ?_)
            (refine RunVC.storeL p20 1 rfl ty3 rfl (by decide) (And.intro ⟨rfl, rfl⟩ ?_); intro m281 o281)
            refine Br.dec (fun c282 => ?_) (fun hc => absurd (by omega) hc)
            refine StillVC.run (StillVC.strIdx rfl rfl str9 (by omega) (by assumption) ?_)
            refine Br.dec (fun hc => absurd hc (by omega)) (fun c284 => ?_)
            refine StillVC.run (StillVC.sliceS str9 rfl rfl ⟨_, rfl⟩ (by omega) (by omega) (by omega) ?_)
            rw [show List.drop (Int.toNat 0) (List.take (Int.toNat (i : Nat)) t) = t.take (i) by simp]
            refine CallVC.ret (number_spec (t.take (i)) _ (by first | omega | (simp; omega))) ?_
            rintro _ h35 ⟨rfl, oc35⟩
            have p35 := oc35.thenE (by assumption)
            have hnr := numR_rng (t.take (i))
            have h45s : ¬ some c0 = some 45 := fun e => h45 (Option.some.inj e)
            have hs : seemF t = ((numR (t.take (i)) : Int), (numR (t.drop (i + 1)) : Int)) := by unfold seemF; rw [hcut]; simp only [hhd, if_neg h45s]; try first | rfl | simp
            rw [hs]
            refine StillVC.run (StillVC.fieldAddr st24 rfl rfl rfl ?_)
            (refine RunVC.store p35 1 rfl ty3 rfl (by simp) (And.intro ⟨rfl, rfl⟩ ?_); intro m301 o301)
            refine Br.dec (fun hc => absurd hc (by omega)) (fun c302 => ?_)
            refine StillVC.run (StillVC.loadON o301 1 rfl ty24 rfl rfl rfl ?_)
            refine CallVC.ret (textRef_spec ((numR (t.take (i)) : Int), (numR (t.drop (i + 1)) : Int)) _ ⟨⟨by first | omega | (simp only; omega), by first | omega | (simp only; omega)⟩, ⟨by first | omega | (simp only; omega), by first | omega | (simp only; omega)⟩⟩) ?_
            rintro _ h36 ⟨rfl, oc36⟩
            have p36 := oc36.thenE (by assumption)
            by_cases he : textR ((numR (t.take (i)) : Int), (numR (t.drop (i + 1)) : Int)) = t
            · rw [if_pos ⟨hne, he⟩]
              refine Br.ndec (fun hc => absurd (by first | omega | assumption | decide | exact rfl) hc) (fun c320 => ?_)
              refine StillVC.run (StillVC.loadON p36 1 rfl ty24 rfl rfl rfl ?_)
              (refine RunVC.storeL p36 0 rfl ty24 rfl (by decide) (And.intro ⟨rfl, rfl⟩ ?_); intro m322 o322)
              first | refine RetVC.cell2 rfl o322 0 rfl ty24 rfl rfl ?_ | refine RetVC.cell1 rfl o322 0 rfl ty24 rfl rfl ?_
              exact ⟨rfl, Own.sel (by assumption) [] rfl⟩
            · rw [if_neg (fun hc => he hc.2)]
              refine Br.ndec (fun c340 => ?_) (fun hc => absurd hc (by first | omega | assumption | decide | exact rfl))
              refine StillVC.run (StillVC.buildK st24 ?_)
              (refine RunVC.storeL p36 0 rfl ty24 rfl (by decide) (And.intro ⟨rfl, rfl⟩ ?_); intro m342 o342)
              first | refine RetVC.cell2 rfl o342 0 rfl ty24 rfl rfl ?_ | refine RetVC.cell1 rfl o342 0 rfl ty24 rfl rfl ?_
              exact ⟨rfl, Own.sel (by assumption) [] rfl⟩
      · have hcn : ¬ (c.toNat : Int) = 47 := fun e => h47 (UInt8.toNat_inj.1 (by have : (47 : UInt8).toNat = 47 := rfl; omega))
        refine StillVC.run (StillVC.lenS rfl str9 ?_)
        refine Br.dec (fun c51 => ?_) (fun hc => absurd (by omega) hc)
        refine StillVC.run (StillVC.strIdx rfl rfl str9 (by omega) (by assumption) ?_)
        refine Br.dec (fun hc => absurd hc (by omega)) (fun c53 => ?_)
        refine Ar.i64 (by omega) (by omega) ?_
        refine ⟨rfl, ?_⟩
        refine ⟨⟨rfl, i + 1, by omega, rfl, ?_⟩, by simp; omega⟩
        rw [List.take_add_one, hc]
        intro hm
        rcases List.mem_append.1 hm with hm | hm
        · exact hno hm
        · simp at hm; exact h47 hm.symm
    · have hii : i = t.length := by omega
      subst hii
      rw [List.take_length] at hno
      have hcut := cut_no t hno
      by_cases hne0 : t = []
      · subst hne0
        refine StillVC.run (StillVC.lenS rfl str9 ?_)
        refine Br.ff ?_
        refine Br.ff ?_
        refine Br.ff ?_
        refine StillVC.run (StillVC.sliceS str9 rfl rfl ⟨_, rfl⟩ (by omega) (by omega) (by omega) ?_)
        refine CallVC.ret (number_spec [] _ (by simp)) ?_
        rintro _ h20 ⟨rfl, oc20⟩
        have p20 := oc20.thenE (by assumption)
        rw [if_neg (fun hc => hc.1 rfl)]
        refine StillVC.run (StillVC.fieldAddr st24 rfl rfl rfl ?_)
        (refine RunVC.storeL p20 1 rfl ty3 rfl (by decide) (And.intro ⟨rfl, rfl⟩ ?_); intro m711 o711)
        refine Br.tt ?_
        refine Br.tt ?_
        refine StillVC.run (StillVC.buildK st24 ?_)
        (refine RunVC.storeL o711 0 rfl ty24 rfl (by decide) (And.intro ⟨rfl, rfl⟩ ?_); intro m713 o713)
        first | refine RetVC.cell2 rfl o713 0 rfl ty24 rfl rfl ?_ | refine RetVC.cell1 rfl o713 0 rfl ty24 rfl rfl ?_
        exact ⟨rfl, Own.sel (by assumption) [] rfl⟩
      · have hne : t ≠ [] := hne0
        have hpos : 0 < t.length := List.length_pos_iff.2 hne
        obtain ⟨c0, hc0⟩ := getx hpos
        have hhd : t.head? = some c0 := by rw [List.head?_eq_getElem?]; exact hc0
        by_cases h45 : c0 = 45
        · have h45n : (c0.toNat : Int) = 45 := by rw [h45]; rfl
          refine StillVC.run (StillVC.lenS rfl str9 ?_)
          refine Br.dec (fun hc => absurd hc (by omega)) (fun c821 => ?_)
          refine Br.dec (fun c822 => ?_) (fun hc => absurd (by omega) hc)
          refine StillVC.run (StillVC.strIdx rfl rfl str9 (by omega) (by assumption) ?_)
          refine Br.dec (fun c824 => ?_) (fun hc => absurd (by omega) hc)
          refine StillVC.run (StillVC.sliceS str9 rfl ⟨_, rfl⟩ ⟨_, rfl⟩ (by omega) (by omega) (by omega) ?_)
          rw [show List.drop (Int.toNat 1) (List.take (Int.toNat (t.length : Nat)) t) = t.tail by simp]
          refine CallVC.ret (number_spec (t.tail) _ (by first | omega | (simp; omega))) ?_
          rintro _ h61 ⟨rfl, oc61⟩
          have p61 := oc61.thenE (by assumption)
          have hnr := numR_rng t.tail
          have hs : seemF t = (0 - (numR t.tail : Int), 1) := by unfold seemF; rw [hcut]; simp only [hhd, h45, if_true, Int.zero_sub]; try first | rfl | simp
          rw [hs]
          refine Ar.i64 (by omega) (by omega) ?_
          refine StillVC.run (StillVC.fieldAddr st24 rfl rfl rfl ?_)
          (refine RunVC.storeL p61 1 rfl ty3 rfl (by decide) (And.intro ⟨rfl, rfl⟩ ?_); intro m841 o841)
          refine Br.dec (fun hc => absurd hc (by omega)) (fun c842 => ?_)
          refine StillVC.run (StillVC.loadON o841 1 rfl ty24 rfl rfl rfl ?_)
          refine CallVC.ret (textRef_spec (0 - (numR t.tail : Int), 1) _ ⟨⟨by first | omega | (simp only; omega), by first | omega | (simp only; omega)⟩, by simp⟩) ?_
          rintro _ h62 ⟨rfl, oc62⟩
          have p62 := oc62.thenE (by assumption)
          by_cases he : textR (0 - (numR t.tail : Int), 1) = t
          · rw [if_pos ⟨hne, he⟩]
            refine Br.ndec (fun hc => absurd (by first | omega | assumption | decide | exact rfl) hc) (fun c860 => ?_)
            refine StillVC.run (StillVC.loadON p62 1 rfl ty24 rfl rfl rfl ?_)
            (refine RunVC.storeL p62 0 rfl ty24 rfl (by decide) (And.intro ⟨rfl, rfl⟩ ?_); intro m862 o862)
            first | refine RetVC.cell2 rfl o862 0 rfl ty24 rfl rfl ?_ | refine RetVC.cell1 rfl o862 0 rfl ty24 rfl rfl ?_
            exact ⟨rfl, Own.sel (by assumption) [] rfl⟩
          · rw [if_neg (fun hc => he hc.2)]
            refine Br.ndec (fun c880 => ?_) (fun hc => absurd hc (by first | omega | assumption | decide | exact rfl))
            refine StillVC.run (StillVC.buildK st24 ?_)
            (refine RunVC.storeL p62 0 rfl ty24 rfl (by decide) (And.intro ⟨rfl, rfl⟩ ?_); intro m882 o882)
            first | refine RetVC.cell2 rfl o882 0 rfl ty24 rfl rfl ?_ | refine RetVC.cell1 rfl o882 0 rfl ty24 rfl rfl ?_
            exact ⟨rfl, Own.sel (by assumption) [] rfl⟩
        · have h45n : ¬ (c0.toNat : Int) = 45 := fun e => h45 (UInt8.toNat_inj.1 (by have : (45 : UInt8).toNat = 45 := rfl; omega))
          refine StillVC.run (StillVC.lenS rfl str9 ?_)
          refine Br.dec (fun hc => absurd hc (by omega)) (fun c901 => ?_)
          refine Br.dec (fun c902 => ?_) (fun hc => absurd (by omega) hc)
          refine StillVC.run (StillVC.strIdx rfl rfl str9 (by omega) (by assumption) ?_)
          refine Br.dec (fun hc => absurd hc (by omega)) (fun c904 => ?_)
          refine StillVC.run (StillVC.sliceS str9 rfl rfl ⟨_, rfl⟩ (by omega) (by omega) (by omega) ?_)
          rw [show List.drop (Int.toNat 0) (List.take (Int.toNat (t.length : Nat)) t) = t by simp]
          refine CallVC.ret (number_spec (t) _ (by first | omega | (simp; omega))) ?_
          rintro _ h63 ⟨rfl, oc63⟩
          have p63 := oc63.thenE (by assumption)
          have hnr := numR_rng t
          have h45s : ¬ some c0 = some 45 := fun e => h45 (Option.some.inj e)
          have hs : seemF t = ((numR t : Int), 1) := by unfold seemF; rw [hcut]; simp only [hhd, if_neg h45s]; try first | rfl | simp
          rw [hs]
          refine StillVC.run (StillVC.fieldAddr st24 rfl rfl rfl ?_)
          (refine RunVC.storeL p63 1 rfl ty3 rfl (by decide) (And.intro ⟨rfl, rfl⟩ ?_); intro m921 o921)
          refine Br.dec (fun hc => absurd hc (by omega)) (fun c922 => ?_)
          refine StillVC.run (StillVC.loadON o921 1 rfl ty24 rfl rfl rfl ?_)
          refine CallVC.ret (textRef_spec ((numR t : Int), 1) _ ⟨⟨by first | omega | (simp only; omega), by first | omega | (simp only; omega)⟩, by simp⟩) ?_
          rintro _ h64 ⟨rfl, oc64⟩
          have p64 := oc64.thenE (by assumption)
          by_cases he : textR ((numR t : Int), 1) = t
          · rw [if_pos ⟨hne, he⟩]
            refine Br.ndec (fun hc => absurd (by first | omega | assumption | decide | exact rfl) hc) (fun c940 => ?_)
            refine StillVC.run (StillVC.loadON p64 1 rfl ty24 rfl rfl rfl ?_)
            (refine RunVC.storeL p64 0 rfl ty24 rfl (by decide) (And.intro ⟨rfl, rfl⟩ ?_); intro m942 o942)
            first | refine RetVC.cell2 rfl o942 0 rfl ty24 rfl rfl ?_ | refine RetVC.cell1 rfl o942 0 rfl ty24 rfl rfl ?_
            exact ⟨rfl, Own.sel (by assumption) [] rfl⟩
          · rw [if_neg (fun hc => he hc.2)]
            refine Br.ndec (fun c960 => ?_) (fun hc => absurd hc (by first | omega | assumption | decide | exact rfl))
            refine StillVC.run (StillVC.buildK st24 ?_)
            (refine RunVC.storeL p64 0 rfl ty24 rfl (by decide) (And.intro ⟨rfl, rfl⟩ ?_); intro m962 o962)
            first | refine RetVC.cell2 rfl o962 0 rfl ty24 rfl rfl ?_ | refine RetVC.cell1 rfl o962 0 rfl ty24 rfl rfl ?_
            exact ⟨rfl, Own.sel (by assumption) [] rfl⟩

end Go.Proofs.YtemijanhigjmmaaDoor
