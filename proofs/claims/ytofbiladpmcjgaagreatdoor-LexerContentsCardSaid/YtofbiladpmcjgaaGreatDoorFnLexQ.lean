/-
  The lexer's texts in quotes.
-/
import Derived.Test.YtofbiladpmcjgaaGreatDoorStructs
import Derived.Test.YtofbiladpmcjgaaGreatDoorFnLexS
namespace Go.Proofs.YtofbiladpmcjgaaGreatDoor
open Go

/-- What stands for an escaped byte. -/
def escB (d : UInt8) : Option UInt8 := if d.toNat = 34 then some 34 else if d.toNat = 92 then some 92 else if d.toNat = 110 then some 10 else none

/-- The content of a text behind its first quote: what was read so far, and how many bytes that were. -/
def quoF : List UInt8 → List UInt8 → Nat → Rd
  | [], _, _ => .err 7
  | [c], acc, k => if c.toNat = 34 then (if 200 < acc.length then .err 3 else .tok 3 acc 0 (k + 2)) else if c.toNat = 10 then .err 5 else .err 7
  | c :: d :: r, acc, k =>
    if c.toNat = 34 then (if 200 < acc.length then .err 3 else .tok 3 acc 0 (k + 2))
    else if c.toNat = 10 then .err 5
    else if c.toNat = 92 then (match escB d with
      | none => .err 5
      | some x => quoF r (acc ++ [x]) (k + 2))
    else quoF (d :: r) (acc ++ [c]) (k + 1)

def quotedR (l : List UInt8) : Rd :=
  match l with
  | [] => .none
  | c :: r => if c.toNat = 34 then quoF r [] 0 else .none

theorem quotedR_at {t : List UInt8} {i : Nat} {c : UInt8} (hc : t[i]? = some c) : quotedR (t.drop i) = if c.toNat = 34 then quoF (t.drop (i + 1)) [] 0 else .none := by
  obtain ⟨hi, rfl⟩ := List.getElem?_eq_some_iff.1 hc
  rw [List.drop_eq_getElem_cons hi]
  rfl

theorem quoF_quote {l acc : List UInt8} {j : Nat} {x : UInt8} (hx : l[j]? = some x) (h : x.toNat = 34) : quoF (l.drop j) acc j = if 200 < acc.length then .err 3 else .tok 3 acc 0 (j + 2) := by
  obtain ⟨hj, rfl⟩ := List.getElem?_eq_some_iff.1 hx
  rw [List.drop_eq_getElem_cons hj]
  generalize l[j] = x at *
  cases l.drop (j + 1) with
  | nil => rw [quoF, if_pos h]
  | cons d r => rw [quoF, if_pos h]

theorem quoF_nl {l acc : List UInt8} {j : Nat} {x : UInt8} (hx : l[j]? = some x) (h : x.toNat = 10) : quoF (l.drop j) acc j = .err 5 := by
  obtain ⟨hj, rfl⟩ := List.getElem?_eq_some_iff.1 hx
  rw [List.drop_eq_getElem_cons hj]
  generalize l[j] = x at *
  cases l.drop (j + 1) with
  | nil => rw [quoF, if_neg (by omega), if_pos h]
  | cons d r => rw [quoF, if_neg (by omega), if_pos h]

theorem quoF_other {l acc : List UInt8} {j : Nat} {x : UInt8} (hx : l[j]? = some x) (h1 : x.toNat ≠ 34) (h2 : x.toNat ≠ 10) (h3 : x.toNat ≠ 92) : quoF (l.drop j) acc j = quoF (l.drop (j + 1)) (acc ++ [x]) (j + 1) := by
  obtain ⟨hj, rfl⟩ := List.getElem?_eq_some_iff.1 hx
  rw [List.drop_eq_getElem_cons hj]
  generalize l[j] = x at *
  cases l.drop (j + 1) with
  | nil => simp only [quoF, if_neg h1, if_neg h2]
  | cons d r => rw [quoF, if_neg h1, if_neg h2, if_neg h3]

theorem quoF_esc {l acc : List UInt8} {j : Nat} {x d : UInt8} (hx : l[j]? = some x) (h : x.toNat = 92) (hd : l[j + 1]? = some d) : quoF (l.drop j) acc j = match escB d with
    | none => .err 5
    | some y => quoF (l.drop (j + 2)) (acc ++ [y]) (j + 2) := by
  obtain ⟨hj, rfl⟩ := List.getElem?_eq_some_iff.1 hx
  obtain ⟨hj1, rfl⟩ := List.getElem?_eq_some_iff.1 hd
  rw [List.drop_eq_getElem_cons hj, List.drop_eq_getElem_cons hj1, quoF, if_neg (by omega), if_neg (by omega), if_pos h]

theorem quoF_end {l acc : List UInt8} {j : Nat} {x : UInt8} (hx : l[j]? = some x) (h : x.toNat = 92) (hd : l.length = j + 1) : quoF (l.drop j) acc j = .err 7 := by
  obtain ⟨hj, rfl⟩ := List.getElem?_eq_some_iff.1 hx
  rw [List.drop_eq_getElem_cons hj, List.drop_of_length_le (by omega), quoF, if_neg (by omega), if_neg (by omega)]

set_option maxHeartbeats 4000000 in
set_option maxRecDepth 100000 in
theorem quoted_spec (b : Nat) (t : List UInt8) (i : Nat) (h : Heap) (hi : i < t.length) (hl : t.length ≤ 1000000)
    (h0 : cellAt h ⟨b, 0, none⟩ = some (.string ⟨⟨t⟩⟩)) (h1 : cellAt h ⟨b, 1, none⟩ = some (.int .i64 i)) :
    Spec Tryz.prog 13 [.pointer (some ⟨b, 0, none⟩)] h (RdE h i (quotedR (t.drop i))) := by
  obtain ⟨c, hc⟩ := getx hi
  rw [quotedR_at hc]
  refine Spec.enter Tryz.func13 rfl Tryz.ntmps13 (by kernel_rfl) ?_
  have o0 := Own.refl h
  by_cases hq : c.toNat = 34
  · rw [if_pos hq]
    (refine RunVC.alloc o0 ty35 ?_; intro b10 m10 o10)
    refine DrawVC.intro [0, 1, 2, 4, 5, 6, 8, 9] [3, 7] [] [0, 1, 2, 3, 4, 5, 6, 7, 8, 9] mixed (by kernel_rfl) rfl (fun _ _ _ _ h => h) ?_
    refine StillVC.nilCheck rfl ?_
    refine StillVC.fieldAddr st42 rfl rfl rfl ?_
    refine StillVC.load1 ty9 rfl (o10.old h0) ?_
    refine StillVC.nilCheck rfl ?_
    refine StillVC.fieldAddr st42 rfl rfl rfl ?_
    refine StillVC.load1 ty3 rfl (o10.old h1) ?_
    refine StillVC.strIdx rfl rfl str9 (by omega) (by assumption) ?_
    refine Br.ndec (fun hc => absurd (by first | omega | assumption | decide | exact rfl) hc) (fun c18 => ?_)
    refine DrawVC.intro [0, 1, 2, 4, 5, 6, 8, 9, 10] [3, 7] [] [0, 1, 2, 3, 4, 5, 6, 7, 8, 9, 10] mixed (by kernel_rfl) rfl (fun _ _ _ _ h => h) ?_
    refine StillVC.nilCheck rfl ?_
    refine StillVC.fieldAddr st42 rfl rfl rfl ?_
    refine StillVC.load1 ty9 rfl (o10.old h0) ?_
    refine StillVC.nilCheck rfl ?_
    refine StillVC.fieldAddr st42 rfl rfl rfl ?_
    refine StillVC.load1 ty3 rfl (o10.old h1) ?_
    refine Ar.i64 (by omega) (by omega) ?_
    refine StillVC.sliceS str9 rfl ⟨_, rfl⟩ rfl (by omega) (by omega) (by omega) ?_
    have er : List.drop ((i : Int) + 1).toNat (List.take (Int.toNat (t.length : Nat)) t) = t.drop (i + 1) := by
      rw [show ((i : Int) + 1).toNat = i + 1 by omega]
      simp
    rw [er]
    have hrl : (t.drop (i + 1)).length ≤ 1000000 := by simp; omega
    generalize t.drop (i + 1) = rest at *
    generalize hR : quoF rest [] 0 = R
    have on := o10.nilRow 5 1
    refine LoopVC.intro [3, 4, 6, 7, 8, 30, 31, 32, 33, 34, 35, 36, 37, 38, 39, 40, 41, 42, 43, 44, 45, 46, 47, 48, 49, 50, 51, 52, 53, 54, 55, 56, 57, 58, 59, 60, 61, 62, 63, 64, 65, 66, 67, 68, 69, 70, 71, 72, 73, 74, 75, 76, 77, 78, 79, 80, 81, 82, 83, 84, 85, 86] [4, 6] (fun vs hh => ∃ (j : Nat) (acc : List UInt8) (v : Value), j ≤ rest.length ∧ acc.length ≤ j ∧ vs = [v, .int .i64 j] ∧ quoF (rest.drop j) acc j = R ∧ Own h [box b10 [.int .i64 0, .string ⟨⟨[]⟩⟩, .int .i64 0, .int .i64 0] 35, row v 5 1 acc.length (bytes acc)] hh) (fun vs _ => match vs with | [_, .int _ j] => rest.length - j.toNat | _ => 0) ?_ ?_
    · exact ⟨0, [], _, by omega, by simp, rfl, hR, on⟩
    · rintro vs junk hh ⟨j, acc, v, hj, hal, rfl, hQ, oh⟩
      by_cases hlt : j < rest.length
      · obtain ⟨x, hx⟩ := getx hlt
        by_cases hx34 : x.toNat = 34
        · rw [quoF_quote hx hx34] at hQ
          by_cases hbig : 200 < acc.length
          · rw [if_pos hbig] at hQ
            subst hQ
            refine StillVC.run (StillVC.lenS rfl str9 ?_)
            refine Br.dec (fun c41 => ?_) (fun hc => absurd (by omega) hc)
            refine StillVC.run (StillVC.strIdx rfl rfl str9 (by omega) (by assumption) ?_)
            refine Br.dec (fun c43 => ?_) (fun hc => absurd (by omega) hc)
            refine StillVC.run (StillVC.lenN (oh.rowArrN 1 rfl) sl61 ?_)
            refine Br.dec (fun c45 => ?_) (fun hc => absurd (by omega) hc)
            exact CallVC.ends (fail_spec 3 b t i _ (oh.old h1)) (fun _ _ h => h.elim) (fun c h' ⟨hc, ho⟩ => ⟨hc, (ho.thenE oh).sel [] rfl⟩)
          · rw [if_neg hbig] at hQ
            subst hQ
            refine StillVC.run (StillVC.lenS rfl str9 ?_)
            refine Br.dec (fun c61 => ?_) (fun hc => absurd (by omega) hc)
            refine StillVC.run (StillVC.strIdx rfl rfl str9 (by omega) (by assumption) ?_)
            refine Br.dec (fun c63 => ?_) (fun hc => absurd (by omega) hc)
            refine StillVC.run (StillVC.lenN (oh.rowArrN 1 rfl) sl61 ?_)
            refine Br.dec (fun hc => absurd hc (by omega)) (fun c65 => ?_)
            refine Br.dec (fun c66 => ?_) (fun hc => absurd (by omega) hc)
            refine StillVC.run (StillVC.bytesStr (oh.rowArr 1 rfl) sl61 int5 str9 ?_)
            refine StillVC.run (StillVC.buildK st35 ?_)
            refine And.intro rfl ?_
            refine And.intro rfl ?_
            refine Ar.i64 (by omega) (by omega) ?_
            (refine RunVC.storeL oh 0 rfl ty35 rfl (by decide) (And.intro ⟨rfl, rfl⟩ ?_); intro m69 o69)
            first | refine RetVC.cell2 rfl o69 0 rfl ty35 rfl rfl ?_ | refine RetVC.cell1 rfl o69 0 rfl ty35 rfl rfl ?_ | refine RetVC.cellTT rfl o69 0 rfl ty35 rfl rfl ?_
            exact ⟨by first | rfl | (simp; omega), Own.sel (by assumption) [] rfl⟩
        · by_cases hx10 : x.toNat = 10
          · rw [quoF_nl hx hx10] at hQ
            subst hQ
            refine StillVC.run (StillVC.lenS rfl str9 ?_)
            refine Br.dec (fun c81 => ?_) (fun hc => absurd (by omega) hc)
            refine StillVC.run (StillVC.strIdx rfl rfl str9 (by omega) (by assumption) ?_)
            refine Br.dec (fun hc => absurd hc (by omega)) (fun c83 => ?_)
            refine Br.ff ?_
            refine Br.dec (fun hc => absurd hc (by omega)) (fun c84 => ?_)
            refine Br.dec (fun c85 => ?_) (fun hc => absurd (by omega) hc)
            exact CallVC.ends (fail_spec 5 b t i _ (oh.old h1)) (fun _ _ h => h.elim) (fun c h' ⟨hc, ho⟩ => ⟨hc, (ho.thenE oh).sel [] rfl⟩)
          · by_cases hx92 : x.toNat = 92
            · by_cases hlast : rest.length = j + 1
              · rw [quoF_end hx hx92 hlast] at hQ
                subst hQ
                refine StillVC.run (StillVC.lenS rfl str9 ?_)
                refine Br.dec (fun c101 => ?_) (fun hc => absurd (by omega) hc)
                refine StillVC.run (StillVC.strIdx rfl rfl str9 (by omega) (by assumption) ?_)
                refine Br.dec (fun hc => absurd hc (by omega)) (fun c103 => ?_)
                refine Br.ff ?_
                refine Br.dec (fun hc => absurd hc (by omega)) (fun c104 => ?_)
                refine Br.dec (fun hc => absurd hc (by omega)) (fun c105 => ?_)
                refine Br.dec (fun c106 => ?_) (fun hc => absurd (by omega) hc)
                refine Ar.i64 (by omega) (by omega) ?_
                refine StillVC.run (StillVC.lenS rfl str9 ?_)
                refine Br.dec (fun c108 => ?_) (fun hc => absurd (by omega) hc)
                exact CallVC.ends (fail_spec 7 b t i _ (oh.old h1)) (fun _ _ h => h.elim) (fun c h' ⟨hc, ho⟩ => ⟨hc, (ho.thenE oh).sel [] rfl⟩)
              · obtain ⟨d, hd⟩ := getx (show j + 1 < rest.length by omega)
                have hE := quoF_esc (acc := acc) hx hx92 hd
                have hd' : rest[((j : Int) + 1).toNat]? = some d := by rw [show ((j : Int) + 1).toNat = j + 1 by omega]; exact hd
                refine StillVC.run (StillVC.lenS rfl str9 ?_)
                refine Br.dec (fun c121 => ?_) (fun hc => absurd (by omega) hc)
                refine StillVC.run (StillVC.strIdx rfl rfl str9 (by omega) (by assumption) ?_)
                refine Br.dec (fun hc => absurd hc (by omega)) (fun c123 => ?_)
                refine Br.ff ?_
                refine Br.dec (fun hc => absurd hc (by omega)) (fun c124 => ?_)
                refine Br.dec (fun hc => absurd hc (by omega)) (fun c125 => ?_)
                refine Br.dec (fun c126 => ?_) (fun hc => absurd (by omega) hc)
                refine Ar.i64 (by omega) (by omega) ?_
                refine StillVC.run (StillVC.lenS rfl str9 ?_)
                refine Br.dec (fun hc => absurd hc (by omega)) (fun c128 => ?_)
                refine StillVC.run (StillVC.strIdx rfl rfl str9 (by omega) (by assumption) ?_)
                refine CallVC.ret (indexByte_spec [34, 92, 110] d _) ?_
                rintro _ h5 ⟨rfl, oi⟩
                have o5 := oh.ext' oi
                by_cases hd34 : d = 34
                · have hk : Lib.indexByte [34, 92, 110] d = 0 := by rw [hd34]; decide
                  rw [hE, hd34] at hQ
                  rw [hk]
                  rw [show escB 34 = some 34 by decide] at hQ
                  simp only at hQ
                  have hy : ([34, 92, 10] : List UInt8)[((0 : Int)).toNat]? = some 34 := rfl
                  refine Br.ff ?_
                  refine StillVC.run (StillVC.strIdx rfl rfl str9 (by omega) (by assumption) ?_)
                  (refine RunVC.lit o5 sl61 ty5 rfl rfl (by decide) (And.intro rfl ?_); intro b131 m131 o131)
                  (refine RunVC.append o131 1 rfl sl61 ty5 (by decide) (o131.boxArr 2 rfl (by simp) (by simp)).toN (by simp [Value.oneCell']) (by simp only [maxLen]; first | omega | (simp; omega)) (by first | omega | (simp; omega)) ?_; intro v132 m132 o132)
                  refine Ar.i64 (by omega) (by omega) ?_
                  refine ⟨rfl, ?_⟩
                  refine ⟨⟨j + 2, acc ++ [34], _, by omega, by simp; omega, rfl, hQ, ?_⟩, by simp; omega⟩
                  have q := o132.sel [0, 1] rfl
                  simpa [pick] using q
                · by_cases hd92 : d = 92
                  · have hk : Lib.indexByte [34, 92, 110] d = 1 := by rw [hd92]; decide
                    rw [hE, hd92] at hQ
                    rw [hk]
                    rw [show escB 92 = some 92 by decide] at hQ
                    simp only at hQ
                    have hy : ([34, 92, 10] : List UInt8)[((1 : Int)).toNat]? = some 92 := rfl
                    refine Br.ff ?_
                    refine StillVC.run (StillVC.strIdx rfl rfl str9 (by omega) (by assumption) ?_)
                    (refine RunVC.lit o5 sl61 ty5 rfl rfl (by decide) (And.intro rfl ?_); intro b141 m141 o141)
                    (refine RunVC.append o141 1 rfl sl61 ty5 (by decide) (o141.boxArr 2 rfl (by simp) (by simp)).toN (by simp [Value.oneCell']) (by simp only [maxLen]; first | omega | (simp; omega)) (by first | omega | (simp; omega)) ?_; intro v142 m142 o142)
                    refine Ar.i64 (by omega) (by omega) ?_
                    refine ⟨rfl, ?_⟩
                    refine ⟨⟨j + 2, acc ++ [92], _, by omega, by simp; omega, rfl, hQ, ?_⟩, by simp; omega⟩
                    have q := o142.sel [0, 1] rfl
                    simpa [pick] using q
                  · by_cases hd110 : d = 110
                    · have hk : Lib.indexByte [34, 92, 110] d = 2 := by rw [hd110]; decide
                      rw [hE, hd110] at hQ
                      rw [hk]
                      rw [show escB 110 = some 10 by decide] at hQ
                      simp only at hQ
                      have hy : ([34, 92, 10] : List UInt8)[((2 : Int)).toNat]? = some 10 := rfl
                      refine Br.ff ?_
                      refine StillVC.run (StillVC.strIdx rfl rfl str9 (by omega) (by assumption) ?_)
                      (refine RunVC.lit o5 sl61 ty5 rfl rfl (by decide) (And.intro rfl ?_); intro b151 m151 o151)
                      (refine RunVC.append o151 1 rfl sl61 ty5 (by decide) (o151.boxArr 2 rfl (by simp) (by simp)).toN (by simp [Value.oneCell']) (by simp only [maxLen]; first | omega | (simp; omega)) (by first | omega | (simp; omega)) ?_; intro v152 m152 o152)
                      refine Ar.i64 (by omega) (by omega) ?_
                      refine ⟨rfl, ?_⟩
                      refine ⟨⟨j + 2, acc ++ [10], _, by omega, by simp; omega, rfl, hQ, ?_⟩, by simp; omega⟩
                      have q := o152.sel [0, 1] rfl
                      simpa [pick] using q
                    · have hk : ¬ 0 ≤ Lib.indexByte [34, 92, 110] d := fun e => by
                        have := (indexByte_nonneg [34, 92, 110] d).2.1 e
                        simp [hd34, hd92, hd110] at this
                      have hk2 := (indexByte_nonneg [34, 92, 110] d).1
                      have hn : escB d = none := by
                        have e1 : d.toNat ≠ 34 := fun e => hd34 (UInt8.toNat_inj.1 e)
                        have e2 : d.toNat ≠ 92 := fun e => hd92 (UInt8.toNat_inj.1 e)
                        have e3 : d.toNat ≠ 110 := fun e => hd110 (UInt8.toNat_inj.1 e)
                        simp [escB, e1, e2, e3]
                      rw [hE, hn] at hQ
                      simp only at hQ
                      subst hQ
                      generalize Lib.indexByte [34, 92, 110] d = q at *
                      refine Br.dec (fun c155 => ?_) (fun hc => absurd (by omega) hc)
                      exact CallVC.ends (fail_spec 5 b t i _ (o5.old h1)) (fun _ _ h => h.elim) (fun c h' ⟨hc, ho⟩ => ⟨hc, (ho.thenE o5).sel [] rfl⟩)
            · rw [quoF_other hx hx34 hx10 hx92] at hQ
              refine StillVC.run (StillVC.lenS rfl str9 ?_)
              refine Br.dec (fun c161 => ?_) (fun hc => absurd (by omega) hc)
              refine StillVC.run (StillVC.strIdx rfl rfl str9 (by omega) (by assumption) ?_)
              refine Br.dec (fun hc => absurd hc (by omega)) (fun c163 => ?_)
              refine Br.ff ?_
              refine Br.dec (fun hc => absurd hc (by omega)) (fun c164 => ?_)
              refine Br.dec (fun hc => absurd hc (by omega)) (fun c165 => ?_)
              refine Br.dec (fun hc => absurd hc (by omega)) (fun c166 => ?_)
              (refine RunVC.lit oh sl61 ty5 rfl rfl (by decide) (And.intro rfl ?_); intro b167 m167 o167)
              (refine RunVC.append o167 1 rfl sl61 ty5 (by decide) (o167.boxArr 2 rfl (by simp) (by simp)).toN (by simp [Value.oneCell']) (by simp only [maxLen]; first | omega | (simp; omega)) (by first | omega | (simp; omega)) ?_; intro v168 m168 o168)
              refine Ar.i64 (by omega) (by omega) ?_
              refine ⟨rfl, ?_⟩
              refine ⟨⟨j + 1, acc ++ [x], _, by omega, by simp; omega, rfl, hQ, ?_⟩, by simp; omega⟩
              have q := o168.sel [0, 1] rfl
              simpa [pick] using q
      · have : rest.drop j = [] := List.drop_of_length_le (by omega)
        rw [this] at hQ
        subst hQ
        refine StillVC.run (StillVC.lenS rfl str9 ?_)
        refine Br.dec (fun hc => absurd hc (by omega)) (fun c191 => ?_)
        exact CallVC.ends (fail_spec 7 b t i _ (oh.old h1)) (fun _ _ h => h.elim) (fun c h' ⟨hc, ho⟩ => ⟨hc, (ho.thenE oh).sel [] rfl⟩)
  · rw [if_neg hq]
    (refine RunVC.alloc o0 ty35 ?_; intro b200 m200 o200)
    refine DrawVC.intro [0, 1, 2, 4, 5, 6, 8, 9] [3, 7] [] [0, 1, 2, 3, 4, 5, 6, 7, 8, 9] mixed (by kernel_rfl) rfl (fun _ _ _ _ h => h) ?_
    refine StillVC.nilCheck rfl ?_
    refine StillVC.fieldAddr st42 rfl rfl rfl ?_
    refine StillVC.load1 ty9 rfl (o200.old h0) ?_
    refine StillVC.nilCheck rfl ?_
    refine StillVC.fieldAddr st42 rfl rfl rfl ?_
    refine StillVC.load1 ty3 rfl (o200.old h1) ?_
    refine StillVC.strIdx rfl rfl str9 (by omega) (by assumption) ?_
    refine Br.ndec (fun c208 => ?_) (fun hc => absurd hc (by first | omega | assumption | decide | exact rfl))
    refine StillVC.run (StillVC.buildK st35 ?_)
    (refine RunVC.storeL o200 0 rfl ty35 rfl (by decide) (And.intro ⟨rfl, rfl⟩ ?_); intro m210 o210)
    first | refine RetVC.cell2 rfl o210 0 rfl ty35 rfl rfl ?_ | refine RetVC.cell1 rfl o210 0 rfl ty35 rfl rfl ?_ | refine RetVC.cellTT rfl o210 0 rfl ty35 rfl rfl ?_
    exact ⟨⟨0, [], 0, 0, rfl⟩, Own.sel (by assumption) [] rfl⟩

end Go.Proofs.YtofbiladpmcjgaaGreatDoor
