/-
  The reference lexer's texts in quotes, and its tokens.
-/
import Derived.Test.YtofbiladpmcjgaaDoorStructs
import Derived.Test.YtofbiladpmcjgaaDoorFnLexR
namespace Go.Proofs.YtofbiladpmcjgaaDoor
open Go

def contentV : Rd → Value
  | .tok _ x _ len => .tuple ⟨[.string ⟨⟨x⟩⟩, .int .i64 len, .int .i64 0]⟩
  | .err e => .tuple ⟨[.string ⟨⟨[]⟩⟩, .int .i64 0, .int .i64 e]⟩
  | .none => undef

set_option maxHeartbeats 4000000 in
set_option maxRecDepth 100000 in
theorem rcontent_spec (t : List UInt8) (a : Nat) (h : Heap) (ha : a < t.length) (hl : t.length ≤ 1000000) :
    SpecR Tryd.prog 34 [.string ⟨⟨t⟩⟩, .int .i64 a] h fun r h' => r = contentV (quoF (t.drop (a + 1)) [] 0) ∧ Own h [] h' := by
  have hrg : ∀ j, (t.drop (a + 1))[j]? = t[a + 1 + j]? := fun j => by rw [List.getElem?_drop]
  have hrl : (t.drop (a + 1)).length = t.length - (a + 1) := by simp
  generalize hrest : t.drop (a + 1) = rest at *
  generalize hR : quoF rest [] 0 = R
  refine Spec.enter Tryd.func34 rfl Tryd.ntmps34 (by kernel_rfl) ?_
  have o0 := Own.refl h
  have on := o0.nilRow 5 1
  refine Ar.i64 (by omega) (by omega) ?_
  refine LoopVC.intro [4, 5, 6, 7, 8, 9, 12, 13, 14, 15, 16, 17, 18, 19, 20, 21, 22, 23, 24, 25, 26, 27, 28, 29, 30, 31, 32, 33, 34, 35, 36, 37, 38, 39, 40, 41, 42, 43, 44, 45, 46, 47, 48, 49, 50, 51, 52, 53, 54, 55, 56, 57, 58, 59, 60] [7, 8] (fun vs hh => ∃ (j : Nat) (acc : List UInt8) (v : Value), a + 1 + j ≤ t.length ∧ acc.length ≤ j ∧ vs = [v, .int .i64 (a + 1 + j : Nat)] ∧ quoF (rest.drop j) acc j = R ∧ Own h [row v 5 1 acc.length (bytes acc)] hh) (fun vs _ => match vs with | [_, .int _ j] => t.length - j.toNat | _ => 0) ?_ ?_
  · exact ⟨0, [], _, by omega, by simp, by simp, hR, on⟩
  · rintro vs junk hh ⟨j, acc, v, hj, hal, rfl, hQ, oh⟩
    have e1 : ((a + 1 + j : Nat) : Int) + 1 = ((a + 1 + (j + 1) : Nat) : Int) := by omega
    have e2 : ((a + 1 + (j + 1) : Nat) : Int) + 1 = ((a + 1 + (j + 2) : Nat) : Int) := by omega
    by_cases hlt : a + 1 + j < t.length
    · obtain ⟨x, hx⟩ := getx (show j < rest.length by omega)
      have hx' : t[((a + 1 + j : Nat) : Int).toNat]? = some x := by rw [Int.toNat_natCast, ← hrg]; exact hx
      by_cases hx34 : x.toNat = 34
      · rw [quoF_quote hx hx34] at hQ
        by_cases hbig : 200 < acc.length
        · rw [if_pos hbig] at hQ
          subst hQ
          refine StillVC.run (StillVC.lenS rfl str9 ?_)
          refine Br.dec (fun c41 => ?_) (fun hc => absurd (by omega) hc)
          refine StillVC.run (StillVC.strIdx rfl rfl str9 (by omega) (by assumption) ?_)
          refine Br.dec (fun c43 => ?_) (fun hc => absurd (by omega) hc)
          refine StillVC.run (StillVC.lenN (oh.rowArrN 0 rfl) sl56 ?_)
          refine Br.dec (fun c45 => ?_) (fun hc => absurd (by omega) hc)
          refine RetVC.three rfl ?_
          exact ⟨rfl, Own.sel (by assumption) [] rfl⟩
        · rw [if_neg hbig] at hQ
          subst hQ
          refine StillVC.run (StillVC.lenS rfl str9 ?_)
          refine Br.dec (fun c61 => ?_) (fun hc => absurd (by omega) hc)
          refine StillVC.run (StillVC.strIdx rfl rfl str9 (by omega) (by assumption) ?_)
          refine Br.dec (fun c63 => ?_) (fun hc => absurd (by omega) hc)
          refine StillVC.run (StillVC.lenN (oh.rowArrN 0 rfl) sl56 ?_)
          refine Br.dec (fun hc => absurd hc (by omega)) (fun c65 => ?_)
          refine StillVC.run (StillVC.bytesStr (oh.rowArr 0 rfl) sl56 int5 str9 ?_)
          refine Ar.i64 (by omega) (by omega) ?_
          refine Ar.i64 (by omega) (by omega) ?_
          refine RetVC.three rfl ?_
          refine ⟨?_, Own.sel (by assumption) [] rfl⟩
          simp only [contentV, Value.tuple.injEq, Array.mk.injEq, List.cons.injEq, and_true, true_and, Value.int.injEq]
          omega
      · by_cases hx10 : x.toNat = 10
        · rw [quoF_nl hx hx10] at hQ
          subst hQ
          refine StillVC.run (StillVC.lenS rfl str9 ?_)
          refine Br.dec (fun c81 => ?_) (fun hc => absurd (by omega) hc)
          refine StillVC.run (StillVC.strIdx rfl rfl str9 (by omega) (by assumption) ?_)
          refine Br.dec (fun hc => absurd hc (by omega)) (fun c83 => ?_)
          refine Br.dec (fun c84 => ?_) (fun hc => absurd (by omega) hc)
          refine RetVC.three rfl ?_
          exact ⟨rfl, Own.sel (by assumption) [] rfl⟩
        · by_cases hx92 : x.toNat = 92
          · by_cases hlast : rest.length = j + 1
            · rw [quoF_end hx hx92 hlast] at hQ
              subst hQ
              refine StillVC.run (StillVC.lenS rfl str9 ?_)
              refine Br.dec (fun c101 => ?_) (fun hc => absurd (by omega) hc)
              refine StillVC.run (StillVC.strIdx rfl rfl str9 (by omega) (by assumption) ?_)
              refine Br.dec (fun hc => absurd hc (by omega)) (fun c103 => ?_)
              refine Br.dec (fun hc => absurd hc (by omega)) (fun c104 => ?_)
              refine Br.dec (fun c105 => ?_) (fun hc => absurd (by omega) hc)
              refine Ar.i64 (by omega) (by omega) ?_
              refine StillVC.run (StillVC.lenS rfl str9 ?_)
              refine Br.dec (fun c107 => ?_) (fun hc => absurd (by omega) hc)
              refine RetVC.three rfl ?_
              exact ⟨rfl, Own.sel (by assumption) [] rfl⟩
            · obtain ⟨d, hd⟩ := getx (show j + 1 < rest.length by omega)
              have hE := quoF_esc (acc := acc) hx hx92 hd
              have hd' : t[((a + 1 + j : Nat) + 1 : Int).toNat]? = some d := by rw [e1, Int.toNat_natCast, ← hrg]; exact hd
              rw [hQ] at hE
              by_cases hd34 : d.toNat = 34
              · have hk : escB d = some d := by rw [show d = 34 from UInt8.toNat_inj.1 hd34]; rfl
                rw [hk] at hE
                refine StillVC.run (StillVC.lenS rfl str9 ?_)
                refine Br.dec (fun c121 => ?_) (fun hc => absurd (by omega) hc)
                refine StillVC.run (StillVC.strIdx rfl rfl str9 (by omega) (by assumption) ?_)
                refine Br.dec (fun hc => absurd hc (by omega)) (fun c123 => ?_)
                refine Br.dec (fun hc => absurd hc (by omega)) (fun c124 => ?_)
                refine Br.dec (fun c125 => ?_) (fun hc => absurd (by omega) hc)
                refine Ar.i64 (by omega) (by omega) ?_
                refine StillVC.run (StillVC.lenS rfl str9 ?_)
                refine Br.dec (fun hc => absurd hc (by omega)) (fun c127 => ?_)
                refine StillVC.run (StillVC.strIdx rfl rfl str9 (by omega) (by assumption) ?_)
                refine Br.ndec (fun hc => absurd (by first | omega | assumption | decide | exact rfl) hc) (fun c129 => ?_)
                refine Br.ff ?_
                refine Br.dec (fun hc => absurd hc (by omega)) (fun c130 => ?_)
                (refine RunVC.lit oh sl56 ty5 rfl rfl (by decide) (And.intro rfl ?_); intro b131 m131 o131)
                (refine RunVC.append o131 0 rfl sl56 ty5 (by decide) (o131.boxArr 1 rfl (by simp) (by simp)).toN (by simp [Value.oneCell']) (by simp only [maxLen]; first | omega | (simp; omega)) (by first | omega | (simp; omega)) ?_; intro v132 m132 o132)
                refine Ar.i64 (by omega) (by omega) ?_
                refine ⟨rfl, ?_⟩
                refine ⟨⟨j + 2, acc ++ [d], _, by omega, by simp; omega, by rw [e1, e2], hE.symm, ?_⟩, by simp; omega⟩
                have q := o132.sel [0] rfl
                simpa [pick, bytes] using q
              · by_cases hd92 : d.toNat = 92
                · have hk : escB d = some d := by rw [show d = 92 from UInt8.toNat_inj.1 hd92]; rfl
                  rw [hk] at hE
                  refine StillVC.run (StillVC.lenS rfl str9 ?_)
                  refine Br.dec (fun c141 => ?_) (fun hc => absurd (by omega) hc)
                  refine StillVC.run (StillVC.strIdx rfl rfl str9 (by omega) (by assumption) ?_)
                  refine Br.dec (fun hc => absurd hc (by omega)) (fun c143 => ?_)
                  refine Br.dec (fun hc => absurd hc (by omega)) (fun c144 => ?_)
                  refine Br.dec (fun c145 => ?_) (fun hc => absurd (by omega) hc)
                  refine Ar.i64 (by omega) (by omega) ?_
                  refine StillVC.run (StillVC.lenS rfl str9 ?_)
                  refine Br.dec (fun hc => absurd hc (by omega)) (fun c147 => ?_)
                  refine StillVC.run (StillVC.strIdx rfl rfl str9 (by omega) (by assumption) ?_)
                  refine Br.ndec (fun c149 => ?_) (fun hc => absurd hc (by first | omega | assumption | decide | exact rfl))
                  refine Br.ndec (fun hc => absurd (by first | omega | assumption | decide | exact rfl) hc) (fun c150 => ?_)
                  refine Br.ff ?_
                  refine Br.dec (fun hc => absurd hc (by omega)) (fun c151 => ?_)
                  (refine RunVC.lit oh sl56 ty5 rfl rfl (by decide) (And.intro rfl ?_); intro b152 m152 o152)
                  (refine RunVC.append o152 0 rfl sl56 ty5 (by decide) (o152.boxArr 1 rfl (by simp) (by simp)).toN (by simp [Value.oneCell']) (by simp only [maxLen]; first | omega | (simp; omega)) (by first | omega | (simp; omega)) ?_; intro v153 m153 o153)
                  refine Ar.i64 (by omega) (by omega) ?_
                  refine ⟨rfl, ?_⟩
                  refine ⟨⟨j + 2, acc ++ [d], _, by omega, by simp; omega, by rw [e1, e2], hE.symm, ?_⟩, by simp; omega⟩
                  have q := o153.sel [0] rfl
                  simpa [pick, bytes] using q
                · by_cases hd110 : d.toNat = 110
                  · have hk : escB d = some 10 := by simp [escB, hd34, hd92, hd110]
                    rw [hk] at hE
                    refine StillVC.run (StillVC.lenS rfl str9 ?_)
                    refine Br.dec (fun c161 => ?_) (fun hc => absurd (by omega) hc)
                    refine StillVC.run (StillVC.strIdx rfl rfl str9 (by omega) (by assumption) ?_)
                    refine Br.dec (fun hc => absurd hc (by omega)) (fun c163 => ?_)
                    refine Br.dec (fun hc => absurd hc (by omega)) (fun c164 => ?_)
                    refine Br.dec (fun c165 => ?_) (fun hc => absurd (by omega) hc)
                    refine Ar.i64 (by omega) (by omega) ?_
                    refine StillVC.run (StillVC.lenS rfl str9 ?_)
                    refine Br.dec (fun hc => absurd hc (by omega)) (fun c167 => ?_)
                    refine StillVC.run (StillVC.strIdx rfl rfl str9 (by omega) (by assumption) ?_)
                    refine Br.ndec (fun c169 => ?_) (fun hc => absurd hc (by first | omega | assumption | decide | exact rfl))
                    refine Br.ndec (fun c170 => ?_) (fun hc => absurd hc (by first | omega | assumption | decide | exact rfl))
                    refine Br.ndec (fun hc => absurd (by first | omega | assumption | decide | exact rfl) hc) (fun c171 => ?_)
                    refine Br.dec (fun c172 => ?_) (fun hc => absurd (by omega) hc)
                    (refine RunVC.lit oh sl56 ty5 rfl rfl (by decide) (And.intro rfl ?_); intro b173 m173 o173)
                    (refine RunVC.append o173 0 rfl sl56 ty5 (by decide) (o173.boxArr 1 rfl (by simp) (by simp)).toN (by simp [Value.oneCell']) (by simp only [maxLen]; first | omega | (simp; omega)) (by first | omega | (simp; omega)) ?_; intro v174 m174 o174)
                    refine Ar.i64 (by omega) (by omega) ?_
                    refine ⟨rfl, ?_⟩
                    refine ⟨⟨j + 2, acc ++ [10], _, by omega, by simp; omega, by rw [e1, e2], hE.symm, ?_⟩, by simp; omega⟩
                    have q := o174.sel [0] rfl
                    simpa [pick, bytes] using q
                  · have hk : escB d = none := by simp [escB, hd34, hd92, hd110]
                    rw [hk] at hE
                    subst hE
                    refine StillVC.run (StillVC.lenS rfl str9 ?_)
                    refine Br.dec (fun c181 => ?_) (fun hc => absurd (by omega) hc)
                    refine StillVC.run (StillVC.strIdx rfl rfl str9 (by omega) (by assumption) ?_)
                    refine Br.dec (fun hc => absurd hc (by omega)) (fun c183 => ?_)
                    refine Br.dec (fun hc => absurd hc (by omega)) (fun c184 => ?_)
                    refine Br.dec (fun c185 => ?_) (fun hc => absurd (by omega) hc)
                    refine Ar.i64 (by omega) (by omega) ?_
                    refine StillVC.run (StillVC.lenS rfl str9 ?_)
                    refine Br.dec (fun hc => absurd hc (by omega)) (fun c187 => ?_)
                    refine StillVC.run (StillVC.strIdx rfl rfl str9 (by omega) (by assumption) ?_)
                    refine Br.ndec (fun c189 => ?_) (fun hc => absurd hc (by first | omega | assumption | decide | exact rfl))
                    refine Br.ndec (fun c190 => ?_) (fun hc => absurd hc (by first | omega | assumption | decide | exact rfl))
                    refine Br.ndec (fun c191 => ?_) (fun hc => absurd hc (by first | omega | assumption | decide | exact rfl))
                    refine RetVC.three rfl ?_
                    exact ⟨rfl, Own.sel (by assumption) [] rfl⟩
          · rw [quoF_other hx hx34 hx10 hx92] at hQ
            refine StillVC.run (StillVC.lenS rfl str9 ?_)
            refine Br.dec (fun c201 => ?_) (fun hc => absurd (by omega) hc)
            refine StillVC.run (StillVC.strIdx rfl rfl str9 (by omega) (by assumption) ?_)
            refine Br.dec (fun hc => absurd hc (by omega)) (fun c203 => ?_)
            refine Br.dec (fun hc => absurd hc (by omega)) (fun c204 => ?_)
            refine Br.dec (fun hc => absurd hc (by omega)) (fun c205 => ?_)
            (refine RunVC.lit oh sl56 ty5 rfl rfl (by decide) (And.intro rfl ?_); intro b206 m206 o206)
            (refine RunVC.append o206 0 rfl sl56 ty5 (by decide) (o206.boxArr 1 rfl (by simp) (by simp)).toN (by simp [Value.oneCell']) (by simp only [maxLen]; first | omega | (simp; omega)) (by first | omega | (simp; omega)) ?_; intro v207 m207 o207)
            refine Ar.i64 (by omega) (by omega) ?_
            refine ⟨rfl, ?_⟩
            refine ⟨⟨j + 1, acc ++ [x], _, by omega, by simp; omega, by rw [e1], hQ, ?_⟩, by simp; omega⟩
            have q := o207.sel [0] rfl
            simpa [pick, bytes] using q
    · have : rest.drop j = [] := List.drop_of_length_le (by omega)
      rw [this] at hQ
      subst hQ
      refine StillVC.run (StillVC.lenS rfl str9 ?_)
      refine Br.dec (fun hc => absurd hc (by omega)) (fun c221 => ?_)
      refine RetVC.three rfl ?_
      exact ⟨rfl, Own.sel (by assumption) [] rfl⟩

/- WHICH READER FINDS SOMETHING -/
theorem quoF_some : ∀ (l acc : List UInt8) (k : Nat), quoF l acc k ≠ .none
  | [], _, _ => by simp [quoF]
  | [c], acc, k => by
    rw [quoF]
    split
    · split <;> simp
    · split <;> simp
  | c :: d :: r, acc, k => by
    rw [quoF]
    split
    · split <;> simp
    · split
      · simp
      · split
        · split
          · simp
          · exact quoF_some r _ _
        · exact quoF_some (d :: r) _ _

theorem quoF_err : ∀ (l acc : List UInt8) (k : Nat) {e : Int}, quoF l acc k = .err e → e = 3 ∨ e = 5 ∨ e = 7
  | [], _, _, _, h => by cases h; omega
  | [c], acc, k, _, h => by
    rw [quoF] at h
    split at h
    · split at h <;> cases h
      omega
    · split at h <;> cases h <;> omega
  | c :: d :: r, acc, k, _, h => by
    rw [quoF] at h
    split at h
    · split at h <;> cases h
      omega
    · split at h
      · cases h; omega
      · split at h
        · split at h
          · cases h; omega
          · exact quoF_err r _ _ h
        · exact quoF_err (d :: r) _ _ h

theorem quoF_tok : ∀ (l acc : List UInt8) (k : Nat) {kd n : Int} {x : List UInt8} {len : Nat}, quoF l acc k = .tok kd x n len → kd = 3 ∧ n = 0
  | [], _, _, _, _, _, _, h => by cases h
  | [c], acc, k, _, _, _, _, h => by
    rw [quoF] at h
    split at h
    · split at h <;> cases h
      exact ⟨rfl, rfl⟩
    · split at h <;> cases h
  | c :: d :: r, acc, k, _, _, _, _, h => by
    rw [quoF] at h
    split at h
    · split at h <;> cases h
      exact ⟨rfl, rfl⟩
    · split at h
      · cases h
      · split at h
        · split at h
          · cases h
          · exact quoF_tok r _ _ h
        · exact quoF_tok (d :: r) _ _ h

theorem letter_not {c : UInt8} (h : letterB c = true) : digitB c = false ∧ c.toNat ≠ 34 := by
  simp only [letterB, digitB, decide_eq_true_eq, decide_eq_false_iff_not] at *
  omega
theorem digit_not {c : UInt8} (h : digitB c = true) : c.toNat ≠ 34 := by
  simp only [digitB, decide_eq_true_eq] at *
  omega

theorem readR_letter {c : UInt8} {r : List UInt8} (hc : letterB c = true) : readR (c :: r) = if 24 < spanN innerB (c :: r) then .err 3 else .tok 1 ((c :: r).take (spanN innerB (c :: r))) 0 (spanN innerB (c :: r)) := by
  have : nameR (c :: r) = if 24 < spanN innerB (c :: r) then .err 3 else .tok 1 ((c :: r).take (spanN innerB (c :: r))) 0 (spanN innerB (c :: r)) := by rw [nameR, if_pos hc]
  unfold readR readers readN
  rw [this]
  by_cases h : 24 < spanN innerB (c :: r)
  · simp only [if_pos h]
  · simp only [if_neg h]

theorem name_none {c : UInt8} {r : List UInt8} (hc : letterB c = false) : nameR (c :: r) = .none := by
  rw [nameR, if_neg (by rw [hc]; simp)]

theorem span_zero {p : UInt8 → Bool} {c : UInt8} {r : List UInt8} (hc : p c = false) : spanN p (c :: r) = 0 := by
  unfold spanN; rw [List.takeWhile_cons, hc]; rfl

theorem readR_digit {c : UInt8} {r : List UInt8} (hl : letterB c = false) (hc : digitB c = true) : readR (c :: r) = if 10 < spanN digitB (c :: r) ∨ spanN digitB (c :: r) < spanN innerB (c :: r) then .err 6 else .tok 2 ((c :: r).take (spanN digitB (c :: r))) (undec ((c :: r).take (spanN digitB (c :: r)))) (spanN digitB (c :: r)) := by
  have h0 : ¬ spanN digitB (c :: r) = 0 := by have := spanN_pos (r := r) hc; omega
  unfold readR readers readN
  rw [name_none hl]
  simp only [readN, numberR, if_neg h0]
  by_cases h : 10 < spanN digitB (c :: r) ∨ spanN digitB (c :: r) < spanN innerB (c :: r)
  · simp only [if_pos h]
  · simp only [if_neg h]

theorem number_none {c : UInt8} {r : List UInt8} (hc : digitB c = false) : numberR (c :: r) = .none := by
  rw [numberR, if_pos (span_zero hc)]

theorem readR_quote {c : UInt8} {r : List UInt8} (hl : letterB c = false) (hd : digitB c = false) (hc : c.toNat = 34) : readR (c :: r) = quoF r [] 0 := by
  unfold readR readers readN
  rw [name_none hl]
  simp only [readN, number_none hd, quotedR, if_pos hc]
  cases h : quoF r [] 0 with
  | none => exact absurd h (quoF_some _ _ _)
  | _ => rfl

theorem readR_symbol {c : UInt8} {r : List UInt8} (hl : letterB c = false) (hd : digitB c = false) (hc : c.toNat ≠ 34) : readR (c :: r) = if symN (c :: r) = 0 then .err 5 else .tok 4 ((c :: r).take (symN (c :: r))) 0 (symN (c :: r)) := by
  unfold readR readers readN
  rw [name_none hl]
  simp only [readN, number_none hd, quotedR, if_neg hc, symbolR]
  by_cases h : symN (c :: r) = 0
  · simp only [if_pos h]
  · simp only [if_neg h]

theorem undec_snoc (l : List UInt8) (c : UInt8) : undec (l ++ [c]) = undec l * 10 + (c.toNat - 48) := by
  simp [undec, List.foldl_append]

/-- The bytes of a kind go on as long as the next byte is of it. -/
theorem span_lt {p q : UInt8 → Bool} (hpq : ∀ c, p c = true → q c = true) : ∀ (l : List UInt8), spanN p l < spanN q l ↔ ∃ c, l[spanN p l]? = some c ∧ q c = true
  | [] => by simp [spanN]
  | a :: l => by
    have ih := span_lt hpq l
    unfold spanN at ih ⊢
    rw [List.takeWhile_cons, List.takeWhile_cons]
    cases hp : p a with
    | false =>
      simp only [Bool.false_eq_true, if_false, List.length_nil]
      cases hq : q a with
      | false => simp [hq]
      | true => simp [hq]
    | true =>
      rw [hpq a hp]
      simp only [if_true, List.length_cons, Nat.add_lt_add_iff_right, List.getElem?_cons_succ]
      exact ih

theorem digit_inner {c : UInt8} (h : digitB c = true) : innerB c = true := by simp [innerB, h]

theorem slice_at (t : List UInt8) (i n : Nat) : List.drop (i : Int).toNat (List.take ((i : Int) + (n : Nat)).toNat t) = (t.drop i).take n := by
  rw [show ((i : Int) + (n : Nat)).toNat = i + n by omega, Int.toNat_natCast, List.drop_take]
  congr 1
  omega

theorem undec_lt (l : List UInt8) (h : ∀ c ∈ l, digitB c = true) : undec l < 10 ^ l.length := by
  have key : ∀ (r : List UInt8), (∀ c ∈ r, digitB c = true) → undec r.reverse < 10 ^ r.length := by
    intro r
    induction r with
    | nil => intro _; simp [undec]
    | cons c r ih =>
      intro h
      have h1 := ih (fun d hd => h d (by simp [hd]))
      have h2 := digitB_iff (h c (by simp))
      rw [List.reverse_cons, undec_snoc, List.length_cons, Nat.pow_succ]
      omega
  have := key l.reverse (fun c hc => h c (by simpa using hc))
  simpa using this

def tokenV (i : Nat) : Rd → Value
  | .tok k x n len => .tuple ⟨[tokV k x n i, .int .i64 len, .int .i64 0]⟩
  | .err e => .tuple ⟨[tokV 0 [] 0 0, .int .i64 0, .int .i64 e]⟩
  | .none => undef

set_option maxHeartbeats 4000000 in
set_option maxRecDepth 100000 in
theorem rtoken_spec (t : List UInt8) (i : Nat) (h : Heap) (hi : i < t.length) (hl : t.length ≤ 1000000) :
    SpecR Tryd.prog 22 [.string ⟨⟨t⟩⟩, .int .i64 i] h fun r h' => r = tokenV i (readR (t.drop i)) ∧ Own h [] h' := by
  obtain ⟨c, hc⟩ := getx hi
  have hdc : t.drop i = c :: t.drop (i + 1) := by
    obtain ⟨hj, rfl⟩ := List.getElem?_eq_some_iff.1 hc
    exact List.drop_eq_getElem_cons hj
  have hdl : (t.drop i).length = t.length - i := by simp
  have hg : ∀ j, (t.drop i)[j]? = t[i + j]? := fun j => by rw [List.getElem?_drop]
  refine Spec.enter Tryd.func22 rfl Tryd.ntmps22 (by kernel_rfl) ?_
  have o0 := Own.refl h
  (refine RunVC.alloc o0 ty30 ?_; intro b10 m10 o10)
  refine StillVC.run (StillVC.strIdx rfl rfl str9 (by omega) (by assumption) ?_)
  refine CallVC.ret (rletter_spec c _) ?_
  rintro _ h1 ⟨rfl, oa⟩
  have o1 := oa.thenE (by assumption)
  cases hlet : letterB c with
  | true =>
    have hR := readR_letter (r := t.drop (i + 1)) hlet
    rw [← hdc] at hR
    rw [hR]
    refine Br.tt ?_
    refine LoopVC.intro [8, 18, 19, 20, 21, 22, 23, 24, 25, 26, 27, 28, 29, 30, 31, 32, 33] [8] (fun vs hh => ∃ (n : Nat), 1 ≤ n ∧ i + n ≤ t.length ∧ vs = [.int .i64 n] ∧ (∀ d ∈ (t.drop i).take n, innerB d = true) ∧ Own h [box b10 [.int .i64 0, .string ⟨⟨[]⟩⟩, .int .i64 0, .int .i64 0] 30] hh) (fun vs _ => match vs with | [.int _ n] => t.length - n.toNat | _ => 0) ?_ ?_
    · refine ⟨1, by omega, by omega, rfl, fun d hd => ?_, o1⟩
      rw [hdc] at hd
      simp only [List.take_succ_cons, List.take_zero, List.mem_singleton] at hd
      subst hd
      simp [innerB, hlet]
    · rintro vs junk hh ⟨n, hn1, hn, rfl, ha, oh⟩
      by_cases hlt : i + n < t.length
      · obtain ⟨d, hd⟩ := getx hlt
        have hd' : (t.drop i)[n]? = some d := by rw [hg]; exact hd
        refine Ar.i64 (by omega) (by omega) ?_
        refine StillVC.run (StillVC.lenS rfl str9 ?_)
        refine Br.dec (fun c41 => ?_) (fun hc => absurd (by omega) hc)
        refine Ar.i64 (by omega) (by omega) ?_
        refine StillVC.run (StillVC.strIdx rfl rfl str9 (by omega) (by assumption) ?_)
        refine CallVC.ret (rinner_spec d _) ?_
        rintro _ h2 ⟨rfl, ob⟩
        have o2 := oh.ext' ob
        cases hb : innerB d with
        | true =>
          refine Br.tt ?_
          refine Ar.i64 (by omega) (by omega) ?_
          refine ⟨rfl, ?_⟩
          refine ⟨⟨n + 1, by omega, by omega, rfl, fun e he => ?_, o2⟩, by simp; omega⟩
          rw [List.take_add_one, hd'] at he
          rcases List.mem_append.1 he with he | he
          · exact ha e he
          · simp at he; subst he; exact hb
        | false =>
          have hsp : spanN innerB (t.drop i) = n := spanN_end ha (by omega) (fun e he => by rw [hd'] at he; cases he; exact hb)
          rw [hsp]
          by_cases hbig : 24 < n
          · rw [if_pos hbig]
            refine Br.ff ?_
            refine Br.dec (fun c60 => ?_) (fun hc => absurd (by omega) hc)
            refine StillVC.run (StillVC.buildK st30 ?_)
            (refine RunVC.storeL o2 0 rfl ty30 rfl (by decide) (And.intro ⟨rfl, rfl⟩ ?_); intro m62 o62)
            first | refine RetVC.cell2 rfl o62 0 rfl ty30 rfl rfl ?_ | refine RetVC.cell1 rfl o62 0 rfl ty30 rfl rfl ?_ | refine RetVC.cellTT rfl o62 0 rfl ty30 rfl rfl ?_
            exact ⟨rfl, Own.sel (by assumption) [] rfl⟩
          · rw [if_neg hbig]
            refine Br.ff ?_
            refine Br.dec (fun hc => absurd hc (by omega)) (fun c70 => ?_)
            refine Ar.i64 (by omega) (by omega) ?_
            refine StillVC.run (StillVC.sliceS str9 rfl ⟨_, rfl⟩ ⟨_, rfl⟩ (by omega) (by omega) (by omega) ?_)
            refine StillVC.run (StillVC.buildK st30 ?_)
            refine And.intro rfl ?_
            refine And.intro rfl ?_
            refine And.intro rfl ?_
            (refine RunVC.storeL o2 0 rfl ty30 rfl (by decide) (And.intro ⟨rfl, rfl⟩ ?_); intro m73 o73)
            first | refine RetVC.cell2 rfl o73 0 rfl ty30 rfl rfl ?_ | refine RetVC.cell1 rfl o73 0 rfl ty30 rfl rfl ?_ | refine RetVC.cellTT rfl o73 0 rfl ty30 rfl rfl ?_
            refine ⟨?_, Own.sel (by assumption) [] rfl⟩
            rw [← slice_at]
            rfl
      · have hsp : spanN innerB (t.drop i) = n := spanN_end ha (by omega) (fun e he => by
          obtain ⟨he', _⟩ := List.getElem?_eq_some_iff.1 he
          omega)
        rw [hsp]
        by_cases hbig : 24 < n
        · rw [if_pos hbig]
          refine Ar.i64 (by omega) (by omega) ?_
          refine StillVC.run (StillVC.lenS rfl str9 ?_)
          refine Br.dec (fun hc => absurd hc (by omega)) (fun c91 => ?_)
          refine Br.ff ?_
          refine Br.dec (fun c92 => ?_) (fun hc => absurd (by omega) hc)
          refine StillVC.run (StillVC.buildK st30 ?_)
          (refine RunVC.storeL oh 0 rfl ty30 rfl (by decide) (And.intro ⟨rfl, rfl⟩ ?_); intro m94 o94)
          first | refine RetVC.cell2 rfl o94 0 rfl ty30 rfl rfl ?_ | refine RetVC.cell1 rfl o94 0 rfl ty30 rfl rfl ?_ | refine RetVC.cellTT rfl o94 0 rfl ty30 rfl rfl ?_
          exact ⟨rfl, Own.sel (by assumption) [] rfl⟩
        · rw [if_neg hbig]
          refine Ar.i64 (by omega) (by omega) ?_
          refine StillVC.run (StillVC.lenS rfl str9 ?_)
          refine Br.dec (fun hc => absurd hc (by omega)) (fun c101 => ?_)
          refine Br.ff ?_
          refine Br.dec (fun hc => absurd hc (by omega)) (fun c102 => ?_)
          refine Ar.i64 (by omega) (by omega) ?_
          refine StillVC.run (StillVC.sliceS str9 rfl ⟨_, rfl⟩ ⟨_, rfl⟩ (by omega) (by omega) (by omega) ?_)
          refine StillVC.run (StillVC.buildK st30 ?_)
          refine And.intro rfl ?_
          refine And.intro rfl ?_
          refine And.intro rfl ?_
          (refine RunVC.storeL oh 0 rfl ty30 rfl (by decide) (And.intro ⟨rfl, rfl⟩ ?_); intro m105 o105)
          first | refine RetVC.cell2 rfl o105 0 rfl ty30 rfl rfl ?_ | refine RetVC.cell1 rfl o105 0 rfl ty30 rfl rfl ?_ | refine RetVC.cellTT rfl o105 0 rfl ty30 rfl rfl ?_
          refine ⟨?_, Own.sel (by assumption) [] rfl⟩
          rw [← slice_at]
          rfl
  | false =>
    refine Br.ff ?_
    refine CallVC.ret (rdigit_spec c _) ?_
    rintro _ h2 ⟨rfl, ob⟩
    have o2 := ob.thenE (by assumption)
    cases hdig : digitB c with
    | true =>
      have hR := readR_digit (r := t.drop (i + 1)) hlet hdig
      rw [← hdc] at hR
      rw [hR]
      have hd9 := digitB_iff hdig
      refine Br.tt ?_
      refine Ar.u8 (by omega) (by omega) ?_
      refine StillVC.run (StillVC.convI rfl int5 int3 ?_)
      refine Ar.i64 (by omega) (by omega) ?_
      refine LoopVC.intro [8, 9, 51, 52, 53, 54, 55, 56, 57, 58, 59, 60, 61, 62, 63, 64, 65, 66, 67, 68, 69, 70, 71, 72, 73, 74, 75, 76, 77, 78] [8, 9] (fun vs hh => ∃ (n : Nat), 1 ≤ n ∧ i + n ≤ t.length ∧ vs = [.int .i64 n, .int .i64 (undec ((t.drop i).take (min n 10)))] ∧ (∀ d ∈ (t.drop i).take n, digitB d = true) ∧ Own h [box b10 [.int .i64 0, .string ⟨⟨[]⟩⟩, .int .i64 0, .int .i64 0] 30] hh) (fun vs _ => match vs with | [.int _ n, _] => t.length - n.toNat | _ => 0) ?_ ?_
      · refine ⟨1, by omega, by omega, ?_, fun d hd => ?_, o2⟩
        · rw [hdc]
          simp only [List.take_succ_cons, Nat.min_def, if_true, show (1 : Nat) ≤ 10 by omega, List.take_zero, List.cons.injEq, and_true, true_and, Value.int.injEq]
          simp [undec]
          omega
        · rw [hdc] at hd
          simp only [List.take_succ_cons, List.take_zero, List.mem_singleton] at hd
          subst hd
          exact hdig
      · rintro vs junk hh ⟨n, hn1, hn, rfl, ha, oh⟩
        have hub := undec_lt ((t.drop i).take (min n 10)) (fun d hd => ha d ((List.take_subset_take_left _ (Nat.min_le_left n 10)) hd))
        have hub2 : undec ((t.drop i).take (min n 10)) < 10 ^ 10 := Nat.lt_of_lt_of_le hub (Nat.pow_le_pow_right (by omega) (by simp; omega))
        have hmin : n ≤ 10 → (t.drop i).take (min n 10) = (t.drop i).take n := fun h => by rw [Nat.min_eq_left h]
        by_cases hlt : i + n < t.length
        · obtain ⟨d, hd⟩ := getx hlt
          have hd' : (t.drop i)[n]? = some d := by rw [hg]; exact hd
          have htk : (t.drop i).take (n + 1) = (t.drop i).take n ++ [d] := by rw [List.take_add_one, hd']; rfl
          refine Ar.i64 (by omega) (by omega) ?_
          refine StillVC.run (StillVC.lenS rfl str9 ?_)
          refine Br.dec (fun c161 => ?_) (fun hc => absurd (by omega) hc)
          refine Ar.i64 (by omega) (by omega) ?_
          refine StillVC.run (StillVC.strIdx rfl rfl str9 (by omega) (by assumption) ?_)
          refine CallVC.ret (rdigit_spec d _) ?_
          rintro _ h3 ⟨rfl, oc⟩
          have o3 := oh.ext' oc
          cases hb : digitB d with
          | true =>
            have hd9' := digitB_iff hb
            have hall : ∀ e ∈ (t.drop i).take (n + 1), digitB e = true := fun e he => by
              rw [htk] at he
              rcases List.mem_append.1 he with he | he
              · exact ha e he
              · simp at he; subst he; exact hb
            by_cases h10 : n < 10
            · have hu := undec_snoc ((t.drop i).take n) d
              rw [← htk] at hu
              rw [hmin (by omega)] at hub2 ⊢
              refine Br.tt ?_
              refine Br.dec (fun c170 => ?_) (fun hc => absurd (by omega) hc)
              refine Ar.i64 (by omega) (by omega) ?_
              refine Ar.i64 (by omega) (by omega) ?_
              refine StillVC.run (StillVC.strIdx rfl rfl str9 (by omega) (by assumption) ?_)
              refine Ar.u8 (by omega) (by omega) ?_
              refine StillVC.run (StillVC.convI rfl int5 int3 ?_)
              refine Ar.i64 (by omega) (by omega) ?_
              refine Ar.i64 (by omega) (by omega) ?_
              refine Ar.i64 (by omega) (by omega) ?_
              refine ⟨rfl, ?_⟩
              refine ⟨⟨n + 1, by omega, by omega, ?_, hall, o3⟩, by simp; omega⟩
              rw [Nat.min_eq_left (by omega), hu]
              simp only [List.cons.injEq, and_true, Value.int.injEq, true_and]
              omega
            · refine Br.tt ?_
              refine Br.dec (fun hc => absurd hc (by omega)) (fun c190 => ?_)
              refine Ar.i64 (by omega) (by omega) ?_
              refine ⟨rfl, ?_⟩
              refine ⟨⟨n + 1, by omega, by omega, ?_, hall, o3⟩, by simp; omega⟩
              rw [Nat.min_eq_right (by omega), Nat.min_eq_right (by omega)]
              rfl
          | false =>
            have hsp : spanN digitB (t.drop i) = n := spanN_end ha (by omega) (fun e he => by rw [hd'] at he; cases he; exact hb)
            have hin := span_lt (p := digitB) (q := innerB) (fun c h => digit_inner h) (t.drop i)
            rw [hsp] at hin ⊢
            by_cases h10 : 10 < n
            · rw [if_pos (.inl h10)]
              refine Br.ff ?_
              refine Br.dec (fun c200 => ?_) (fun hc => absurd (by omega) hc)
              refine Br.tt ?_
              refine StillVC.run (StillVC.buildK st30 ?_)
              (refine RunVC.storeL o3 0 rfl ty30 rfl (by decide) (And.intro ⟨rfl, rfl⟩ ?_); intro m202 o202)
              first | refine RetVC.cell2 rfl o202 0 rfl ty30 rfl rfl ?_ | refine RetVC.cell1 rfl o202 0 rfl ty30 rfl rfl ?_ | refine RetVC.cellTT rfl o202 0 rfl ty30 rfl rfl ?_
              exact ⟨rfl, Own.sel (by assumption) [] rfl⟩
            · refine Br.ff ?_
              refine Br.dec (fun hc => absurd hc (by omega)) (fun c210 => ?_)
              refine Ar.i64 (by omega) (by omega) ?_
              refine StillVC.run (StillVC.lenS rfl str9 ?_)
              refine Br.dec (fun c212 => ?_) (fun hc => absurd (by omega) hc)
              refine Ar.i64 (by omega) (by omega) ?_
              refine StillVC.run (StillVC.strIdx rfl rfl str9 (by omega) (by assumption) ?_)
              refine CallVC.ret (rinner_spec d _) ?_
              rintro _ h4 ⟨rfl, od⟩
              have o4 := o3.ext' od
              cases hi2 : innerB d with
              | true =>
                rw [if_pos (.inr (hin.2 ⟨d, hd', hi2⟩))]
                refine Br.tt ?_
                refine StillVC.run (StillVC.buildK st30 ?_)
                (refine RunVC.storeL o4 0 rfl ty30 rfl (by decide) (And.intro ⟨rfl, rfl⟩ ?_); intro m221 o221)
                first | refine RetVC.cell2 rfl o221 0 rfl ty30 rfl rfl ?_ | refine RetVC.cell1 rfl o221 0 rfl ty30 rfl rfl ?_ | refine RetVC.cellTT rfl o221 0 rfl ty30 rfl rfl ?_
                exact ⟨rfl, Own.sel (by assumption) [] rfl⟩
              | false =>
                rw [if_neg (by rintro (h | h); exact h10 h; obtain ⟨e, he, hie⟩ := hin.1 h; rw [hd'] at he; cases he; rw [hi2] at hie; cases hie)]
                rw [hmin (by omega)]
                refine Br.ff ?_
                refine Ar.i64 (by omega) (by omega) ?_
                refine StillVC.run (StillVC.sliceS str9 rfl ⟨_, rfl⟩ ⟨_, rfl⟩ (by omega) (by omega) (by omega) ?_)
                refine StillVC.run (StillVC.buildK st30 ?_)
                refine And.intro rfl ?_
                refine And.intro rfl ?_
                refine And.intro rfl ?_
                refine And.intro rfl ?_
                (refine RunVC.storeL o4 0 rfl ty30 rfl (by decide) (And.intro ⟨rfl, rfl⟩ ?_); intro m232 o232)
                first | refine RetVC.cell2 rfl o232 0 rfl ty30 rfl rfl ?_ | refine RetVC.cell1 rfl o232 0 rfl ty30 rfl rfl ?_ | refine RetVC.cellTT rfl o232 0 rfl ty30 rfl rfl ?_
                refine ⟨?_, Own.sel (by assumption) [] rfl⟩
                rw [← slice_at]
                rfl
        · have hsp : spanN digitB (t.drop i) = n := spanN_end ha (by omega) (fun e he => by
            obtain ⟨he', _⟩ := List.getElem?_eq_some_iff.1 he
            omega)
          have hin := span_lt (p := digitB) (q := innerB) (fun c h => digit_inner h) (t.drop i)
          rw [hsp] at hin ⊢
          by_cases h10 : 10 < n
          · rw [if_pos (.inl h10)]
            refine Ar.i64 (by omega) (by omega) ?_
            refine StillVC.run (StillVC.lenS rfl str9 ?_)
            refine Br.dec (fun hc => absurd hc (by omega)) (fun c241 => ?_)
            refine Br.ff ?_
            refine Br.dec (fun c242 => ?_) (fun hc => absurd (by omega) hc)
            refine Br.tt ?_
            refine StillVC.run (StillVC.buildK st30 ?_)
            (refine RunVC.storeL oh 0 rfl ty30 rfl (by decide) (And.intro ⟨rfl, rfl⟩ ?_); intro m244 o244)
            first | refine RetVC.cell2 rfl o244 0 rfl ty30 rfl rfl ?_ | refine RetVC.cell1 rfl o244 0 rfl ty30 rfl rfl ?_ | refine RetVC.cellTT rfl o244 0 rfl ty30 rfl rfl ?_
            exact ⟨rfl, Own.sel (by assumption) [] rfl⟩
          · rw [if_neg (by rintro (h | h); exact h10 h; obtain ⟨e, he, _⟩ := hin.1 h; obtain ⟨he', _⟩ := List.getElem?_eq_some_iff.1 he; omega)]
            rw [hmin (by omega)]
            refine Ar.i64 (by omega) (by omega) ?_
            refine StillVC.run (StillVC.lenS rfl str9 ?_)
            refine Br.dec (fun hc => absurd hc (by omega)) (fun c401 => ?_)
            refine Br.ff ?_
            refine Br.dec (fun hc => absurd hc (by omega)) (fun c402 => ?_)
            refine Ar.i64 (by omega) (by omega) ?_
            refine StillVC.run (StillVC.lenS rfl str9 ?_)
            refine Br.dec (fun hc => absurd hc (by omega)) (fun c404 => ?_)
            refine Br.ff ?_
            refine Ar.i64 (by omega) (by omega) ?_
            refine StillVC.run (StillVC.sliceS str9 rfl ⟨_, rfl⟩ ⟨_, rfl⟩ (by omega) (by omega) (by omega) ?_)
            refine StillVC.run (StillVC.buildK st30 ?_)
            refine And.intro rfl ?_
            refine And.intro rfl ?_
            refine And.intro rfl ?_
            refine And.intro rfl ?_
            (refine RunVC.storeL oh 0 rfl ty30 rfl (by decide) (And.intro ⟨rfl, rfl⟩ ?_); intro m407 o407)
            first | refine RetVC.cell2 rfl o407 0 rfl ty30 rfl rfl ?_ | refine RetVC.cell1 rfl o407 0 rfl ty30 rfl rfl ?_ | refine RetVC.cellTT rfl o407 0 rfl ty30 rfl rfl ?_
            refine ⟨?_, Own.sel (by assumption) [] rfl⟩
            rw [← slice_at]
            rfl
    | false =>
      by_cases h34 : c.toNat = 34
      · have hR := readR_quote (r := t.drop (i + 1)) hlet hdig h34
        rw [← hdc] at hR
        rw [hR]
        refine Br.ff ?_
        refine Br.dec (fun c250 => ?_) (fun hc => absurd (by omega) hc)
        refine CallVC.ret (rcontent_spec t i _ hi hl) ?_
        rintro _ h3 ⟨rfl, oc⟩
        have o3 := oc.thenE (by assumption)
        cases hq : quoF (t.drop (i + 1)) [] 0 with
        | none => exact absurd hq (quoF_some _ _ _)
        | err e =>
          have he := quoF_err _ _ _ hq
          refine Br.ndec (fun c270 => ?_) (fun hc => absurd hc (by first | omega | assumption | decide | exact rfl))
          refine StillVC.run (StillVC.buildK st30 ?_)
          (refine RunVC.storeL o3 0 rfl ty30 rfl (by decide) (And.intro ⟨rfl, rfl⟩ ?_); intro m272 o272)
          first | refine RetVC.cell2 rfl o272 0 rfl ty30 rfl rfl ?_ | refine RetVC.cell1 rfl o272 0 rfl ty30 rfl rfl ?_ | refine RetVC.cellTT rfl o272 0 rfl ty30 rfl rfl ?_
          exact ⟨rfl, Own.sel (by assumption) [] rfl⟩
        | tok k x n len =>
          obtain ⟨rfl, rfl⟩ := quoF_tok _ _ _ hq
          refine Br.ff ?_
          refine StillVC.run (StillVC.buildK st30 ?_)
          refine And.intro rfl ?_
          refine And.intro rfl ?_
          refine And.intro rfl ?_
          (refine RunVC.storeL o3 0 rfl ty30 rfl (by decide) (And.intro ⟨rfl, rfl⟩ ?_); intro m291 o291)
          first | refine RetVC.cell2 rfl o291 0 rfl ty30 rfl rfl ?_ | refine RetVC.cell1 rfl o291 0 rfl ty30 rfl rfl ?_ | refine RetVC.cellTT rfl o291 0 rfl ty30 rfl rfl ?_
          exact ⟨rfl, Own.sel (by assumption) [] rfl⟩
      · have hR := readR_symbol (r := t.drop (i + 1)) hlet hdig h34
        rw [← hdc] at hR
        rw [hR]
        refine Br.ff ?_
        refine Br.dec (fun hc => absurd hc (by omega)) (fun c320 => ?_)
        refine CallVC.ret (rsymbol_spec t i _ hi hl) ?_
        rintro _ h3 ⟨rfl, oc⟩
        have o3 := oc.thenE (by assumption)
        by_cases hz : symN (t.drop i) = 0
        · rw [if_pos hz, hz]
          refine Br.tt ?_
          refine StillVC.run (StillVC.buildK st30 ?_)
          (refine RunVC.storeL o3 0 rfl ty30 rfl (by decide) (And.intro ⟨rfl, rfl⟩ ?_); intro m341 o341)
          first | refine RetVC.cell2 rfl o341 0 rfl ty30 rfl rfl ?_ | refine RetVC.cell1 rfl o341 0 rfl ty30 rfl rfl ?_ | refine RetVC.cellTT rfl o341 0 rfl ty30 rfl rfl ?_
          exact ⟨rfl, Own.sel (by assumption) [] rfl⟩
        · rw [if_neg hz] at hR ⊢
          have hsl := (readR_len hR).2
          have e : List.drop (i : Int).toNat (List.take ((i : Int) + (symN (t.drop i) : Nat)).toNat t) = (t.drop i).take (symN (t.drop i)) := by
            rw [show ((i : Int) + (symN (t.drop i) : Nat)).toNat = i + symN (t.drop i) by omega, Int.toNat_natCast, List.drop_take]
            congr 1
            omega
          refine Br.dec (fun hc => absurd hc (by omega)) (fun c360 => ?_)
          refine Ar.i64 (by omega) (by omega) ?_
          refine StillVC.run (StillVC.sliceS str9 rfl ⟨_, rfl⟩ ⟨_, rfl⟩ (by omega) (by omega) (by omega) ?_)
          refine StillVC.run (StillVC.buildK st30 ?_)
          refine And.intro rfl ?_
          refine And.intro rfl ?_
          refine And.intro rfl ?_
          (refine RunVC.storeL o3 0 rfl ty30 rfl (by decide) (And.intro ⟨rfl, rfl⟩ ?_); intro m363 o363)
          first | refine RetVC.cell2 rfl o363 0 rfl ty30 rfl rfl ?_ | refine RetVC.cell1 rfl o363 0 rfl ty30 rfl rfl ?_ | refine RetVC.cellTT rfl o363 0 rfl ty30 rfl rfl ?_
          refine ⟨?_, Own.sel (by assumption) [] rfl⟩
          rw [← e]
          rfl

end Go.Proofs.YtofbiladpmcjgaaDoor
