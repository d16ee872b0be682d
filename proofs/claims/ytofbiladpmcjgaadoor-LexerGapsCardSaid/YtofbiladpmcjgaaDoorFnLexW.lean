/-
  The walk of LexerPlaces.
-/
import Derived.Test.YtofbiladpmcjgaaDoorStructs
import Derived.Test.YtofbiladpmcjgaaDoorFnLexJ
namespace Go.Proofs.YtofbiladpmcjgaaDoor
open Go

theorem readR_kind3 {l : List UInt8} {n : Int} {x : List UInt8} {len : Nat} (h : readR l = .tok 3 x n len) : ∃ c r, l = c :: r ∧ c.toNat = 34 ∧ quoF r [] 0 = .tok 3 x n len := by
  cases l with
  | nil => cases h
  | cons c r =>
    refine ⟨c, r, rfl, ?_⟩
    cases hlet : letterB c with
    | true =>
      rw [readR_letter hlet] at h
      split at h <;> cases h
    | false =>
      cases hdig : digitB c with
      | true =>
        rw [readR_digit hlet hdig] at h
        split at h <;> cases h
      | false =>
        by_cases h34 : c.toNat = 34
        · rw [readR_quote hlet hdig h34] at h
          exact ⟨h34, h⟩
        · rw [readR_symbol hlet hdig h34] at h
          split at h <;> cases h

theorem slice_to (t : List UInt8) (e g : Nat) : List.drop (e : Int).toNat (List.take ((e + g : Nat) : Int).toNat t) = (t.drop e).take g := by
  rw [← slice_at]
  congr 2

set_option maxHeartbeats 4000000 in
set_option maxRecDepth 100000 in
theorem places_spec (t : List UInt8) (h : Heap) (hl : t.length ≤ 140737488351232) :
    SpecR Tryd.prog 4 [.string ⟨⟨t⟩⟩] h fun v h' => v = .bool true ∧ Own h [] h' := by
  refine Spec.enter Tryd.func4 rfl Tryd.ntmps4 (by kernel_rfl) ?_
  have o0 := Own.refl h
  refine CallVC.ret (head_spec _) ?_
  rintro _ h1 ⟨rfl, oa⟩
  have o1 := o0.ext' oa
  by_cases hbig : 3000 < t.length
  · refine StillVC.run (StillVC.lenS rfl str9 ?_)
    refine Br.dec (fun c21 => ?_) (fun hc => absurd (by omega) hc)
    refine RetVC.one rfl ?_
    exact ⟨rfl, o1⟩
  refine StillVC.run (StillVC.lenS rfl str9 ?_)
  refine Br.dec (fun hc => absurd hc (by omega)) (fun c31 => ?_)
  have hG := lexM_G (t := t) (by omega)
  cases hM : lexM t with
  | error y =>
    obtain ⟨e, j⟩ := y
    rw [hM] at hG
    have he := LexR.err_ne hG e j rfl
    obtain ⟨_, hj3, hj4, _⟩ := hG.cut_err t.length t 0 e j (Nat.le_refl _)
    refine CallVC.ret (lex_err (by omega) hM _) ?_
    rintro _ h2 ⟨rfl, ob⟩
    have o2 := o1.ext' ob
    refine Br.ndec (fun c40 => ?_) (fun hc => absurd hc (by first | omega | assumption | decide | exact rfl))
    refine Br.tt ?_
    refine StillVC.run (StillVC.lenV rfl sl23 ?_)
    refine Br.tt ?_
    refine Br.dec (fun c42 => ?_) (fun hc => absurd (by omega) hc)
    refine StillVC.run (StillVC.lenS rfl str9 ?_)
    refine RetVC.one rfl ?_
    exact ⟨congrArg Value.bool (decide_eq_true (by omega)), o2⟩
  | ok ts =>
    rw [hM] at hG
    obtain ⟨b1, b2⟩ := lexM_bound hM
    refine CallVC.ret (lex_ok (by omega) hM _) ?_
    rintro _ h2 ⟨u, rfl, ob⟩
    have o2 : Own h [row u 30 4 ts.length (ts.flatMap tokC)] h2 := o1.call ob
    refine Br.ff ?_
    refine LoopVC.intro [2, 7, 8, 9, 10, 40, 41, 42, 43, 44, 45, 46, 47, 48, 49, 50, 51, 52, 53, 54, 55, 56, 57, 58, 59, 60, 61, 62, 63, 64, 65, 66, 67, 68, 69, 70, 71, 72, 73, 74, 75, 76, 77, 78, 79, 80, 81, 82, 83, 84, 85, 86, 87, 88, 89, 90, 91, 92, 93, 94, 95, 96, 97, 98, 99, 100, 101, 102, 103, 104, 105, 106, 107, 108, 109, 110, 111, 112, 113, 114, 115, 116, 117, 118, 119, 120, 121, 122, 123, 124, 125, 126, 127, 128, 129, 130, 131, 132, 133, 134, 135, 136, 137, 138, 139, 140, 141, 142, 143, 144, 145, 146, 147, 148, 149, 150, 151, 152] [7, 8] (fun vs hh => ∃ (e q : Nat), q ≤ ts.length ∧ e ≤ t.length ∧ vs = [.int .i64 e, .int .i64 q] ∧ LexG (t.drop e) e (.ok (ts.drop q)) ∧ Own h [row u 30 4 ts.length (ts.flatMap tokC)] hh) (fun vs _ => match vs with | [_, .int _ q] => ts.length - q.toNat | _ => 0) ?_ ?_
    · exact ⟨0, 0, by omega, by omega, rfl, hG, o2⟩
    · rintro vs junk hh ⟨e, q, hq, he, rfl, hGe, oh⟩
      have hdl : (t.drop e).length = t.length - e := by simp
      by_cases hlt : q < ts.length
      · rcases hGe.inv_ok with ⟨hn, _⟩ | ⟨k, x, n, len, us, hR, hg, hts, hrest⟩
        · have := congrArg List.length hn
          simp at this
          omega
        obtain ⟨hl1, hl2⟩ := readR_len hR
        rw [List.length_drop, hdl] at hl2
        have hgt := gapF_take false (t.drop e) (gapF false (t.drop e)) (Nat.le_refl _)
        rw [List.drop_drop] at hrest hR
        have hq0 : ts[q]? = some ⟨k, x, n, e + gapF false (t.drop e)⟩ := by
          have : (ts.drop q)[0]? = ts[q]? := by rw [List.getElem?_drop]; rfl
          rw [← this, hts]; rfl
        have hus : us = ts.drop (q + 1) := by
          have : (ts.drop q).drop 1 = ts.drop (q + 1) := by rw [List.drop_drop]
          rw [← this, hts]; rfl
        rw [hus] at hrest
        generalize gapF false (t.drop e) = g at *
        rw [show e + (g + len) = e + g + len by omega] at hrest
        obtain ⟨y, hq0, hyk, hyt, hyo⟩ : ∃ y : Tok, ts[q]? = some y ∧ y.kind = k ∧ y.text = x ∧ y.off = e + g := ⟨_, hq0, rfl, rfl, rfl⟩
        have hst : List.drop (e : Int).toNat (List.take (y.off : Int).toNat t) = (t.drop e).take g := by rw [hyo]; exact slice_to t e g
        refine StillVC.run (StillVC.lenN (oh.rowArrN 0 rfl) sl23 ?_)
        refine Br.dec (fun c71 => ?_) (fun hc => absurd (by omega) hc)
        refine StillVC.run (StillVC.idxN sl23 ty30 (oh.rowArrN 0 rfl) rfl (by omega) (by omega) ?_)
        refine StillVC.run (StillVC.fieldAdr (oh.rowArrN 0 rfl) (by omega) st30 rfl rfl rfl ?_)
        refine StillVC.run (StillVC.loadFF (oh.rowArrN 0 rfl) ty3 (fun _ => rfl) rfl (by assumption) rfl ?_)
        refine Br.dec (fun hc => absurd hc (by omega)) (fun c75 => ?_)
        refine StillVC.run (StillVC.lenS rfl str9 ?_)
        refine Br.dec (fun hc => absurd hc (by omega)) (fun c77 => ?_)
        refine StillVC.run (StillVC.sliceS str9 rfl ⟨_, rfl⟩ ⟨_, rfl⟩ (by omega) (by omega) (by omega) ?_)
        rw [hst]
        refine CallVC.ret (rgaps_spec _ _ (by simp; omega)) ?_
        rintro _ h3 ⟨rfl, oc⟩
        have o3 := oh.ext' oc
        rw [decide_eq_true (show gapF false ((t.drop e).take g) = ((t.drop e).take g).length by rw [hgt, List.length_take, hdl]; omega)]
        by_cases hk : k = 3
        · subst hk
          obtain ⟨c, r, hcr, h34, hQ⟩ := readR_kind3 hR
          have hc : t[e + g]? = some c := by
            have : (t.drop (e + g))[0]? = t[e + g]? := by rw [List.getElem?_drop]; rfl
            rw [← this, hcr]; rfl
          have hr : ∀ j, r[j]? = t[e + g + 1 + j]? := fun j => by
            have : (t.drop (e + g))[j + 1]? = t[e + g + 1 + j]? := by rw [List.getElem?_drop]; congr 1; omega
            rw [← this, hcr]; rfl
          have hc' : t[(y.off : Int).toNat]? = some c := by rw [hyo, Int.toNat_natCast]; exact hc
          refine Br.ff ?_
          refine StillVC.run (StillVC.idxN sl23 ty30 (o3.rowArrN 0 rfl) rfl (by omega) (by omega) ?_)
          refine StillVC.run (StillVC.fieldAdr (o3.rowArrN 0 rfl) (by omega) st30 rfl rfl rfl ?_)
          refine StillVC.run (StillVC.loadFF (o3.rowArrN 0 rfl) ty3 (fun _ => rfl) rfl (by assumption) rfl ?_)
          refine Br.dec (fun c103 => ?_) (fun hc => absurd (by first | assumption | decide | exact rfl | (simp; done)) hc)
          refine Ar.i64 (by omega) (by omega) ?_
          refine LoopVC.intro [10, 76, 77, 78, 79, 80, 81, 82, 83, 84, 85, 86, 87, 88, 89, 90, 91, 92, 93] [10] (fun vs hh => ∃ (j : Nat) (acc : List UInt8), vs = [.int .i64 (e + g + 1 + j : Nat)] ∧ quoF (r.drop j) acc j = .tok 3 x n len ∧ Own h [row u 30 4 ts.length (ts.flatMap tokC)] hh) (fun vs _ => match vs with | [.int _ j] => t.length - j.toNat | _ => 0) ?_ ?_
          · exact ⟨0, [], by rw [hyo]; rfl, hQ, o3⟩
          · rintro vs junk h4 ⟨j, acc, rfl, hQj, o4⟩
            have hrl : r.length = t.length - (e + g + 1) := by
              have := congrArg List.length hcr
              simp at this
              omega
            have hlj : j < r.length := by
              rcases Nat.lt_or_ge j r.length with h | h
              · exact h
              · rw [List.drop_of_length_le h] at hQj
                cases hQj
            obtain ⟨d, hd⟩ := getx hlj
            have hd' : t[((e + g + 1 + j : Nat) : Int).toNat]? = some d := by rw [Int.toNat_natCast, ← hr]; exact hd
            have hlen := quoF_len _ _ _ hQj
            rw [List.length_drop] at hlen
            by_cases hd34 : d.toNat = 34
            · rw [quoF_quote hd hd34] at hQj
              split at hQj
              · cases hQj
              · injection hQj with _ _ _ hlen2
                refine StillVC.run (StillVC.lenS rfl str9 ?_)
                refine Br.dec (fun c111 => ?_) (fun hc => absurd (by omega) hc)
                refine StillVC.run (StillVC.strIdx rfl rfl str9 (by omega) (by assumption) ?_)
                refine Br.ndec (fun hc => absurd (by first | omega | assumption | decide | exact rfl) hc) (fun c113 => ?_)
                refine StillVC.run (StillVC.strIdx rfl rfl str9 (by omega) (by assumption) ?_)
                refine Br.ndec (fun hc => absurd (by first | omega | assumption | decide | exact rfl) hc) (fun c115 => ?_)
                refine StillVC.run (StillVC.lenS rfl str9 ?_)
                refine Br.dec (fun hc => absurd hc (by omega)) (fun c117 => ?_)
                refine Ar.i64 (by omega) (by omega) ?_
                refine Ar.i64 (by omega) (by omega) ?_
                refine ⟨rfl, ?_⟩
                exact ⟨⟨e + g + len, q + 1, by omega, by omega, by rw [show e + g + len = e + g + 1 + j + 1 by omega]; rfl, hrest, o4⟩, by simp; omega⟩
            · have hd10 : d.toNat ≠ 10 := fun h10 => by
                rw [quoF_nl hd h10] at hQj
                cases hQj
              by_cases hd92 : d.toNat = 92
              · by_cases hlast : r.length = j + 1
                · rw [quoF_end hd hd92 hlast] at hQj
                  cases hQj
                · obtain ⟨d2, hd2⟩ := getx (show j + 1 < r.length by omega)
                  rw [quoF_esc hd hd92 hd2] at hQj
                  cases hE : escB d2 with
                  | none => rw [hE] at hQj; cases hQj
                  | some z =>
                    rw [hE] at hQj
                    refine StillVC.run (StillVC.lenS rfl str9 ?_)
                    refine Br.dec (fun c131 => ?_) (fun hc => absurd (by omega) hc)
                    refine StillVC.run (StillVC.strIdx rfl rfl str9 (by omega) (by assumption) ?_)
                    refine Br.ndec (fun c133 => ?_) (fun hc => absurd hc (by first | omega | assumption | decide | exact rfl))
                    refine StillVC.run (StillVC.strIdx rfl rfl str9 (by omega) (by assumption) ?_)
                    refine Br.dec (fun c135 => ?_) (fun hc => absurd (by omega) hc)
                    refine Ar.i64 (by omega) (by omega) ?_
                    refine Ar.i64 (by omega) (by omega) ?_
                    refine ⟨rfl, ?_⟩
                    exact ⟨⟨j + 2, acc ++ [z], rfl, hQj, o4⟩, by simp; omega⟩
              · rw [quoF_other hd hd34 hd10 hd92] at hQj
                refine StillVC.run (StillVC.lenS rfl str9 ?_)
                refine Br.dec (fun c151 => ?_) (fun hc => absurd (by omega) hc)
                refine StillVC.run (StillVC.strIdx rfl rfl str9 (by omega) (by assumption) ?_)
                refine Br.ndec (fun c153 => ?_) (fun hc => absurd hc (by first | omega | assumption | decide | exact rfl))
                refine StillVC.run (StillVC.strIdx rfl rfl str9 (by omega) (by assumption) ?_)
                refine Br.dec (fun hc => absurd hc (by omega)) (fun c155 => ?_)
                refine Ar.i64 (by omega) (by omega) ?_
                refine ⟨rfl, ?_⟩
                exact ⟨⟨j + 1, acc ++ [d], rfl, hQj, o4⟩, by simp; omega⟩
        · have hx := readR_text hR hk
          have hxl : x.length = len := by rw [hx, List.length_take, List.length_drop]; omega
          have hyl : y.text.length = len := by rw [hyt]; exact hxl
          have hs2 : List.drop (y.off : Int).toNat (List.take ((y.off : Int) + (y.text.length : Nat)).toNat t) = y.text := by
            rw [slice_at, hyl, hyo, hyt]; exact hx.symm
          refine Br.ff ?_
          refine StillVC.run (StillVC.idxN sl23 ty30 (o3.rowArrN 0 rfl) rfl (by omega) (by omega) ?_)
          refine StillVC.run (StillVC.fieldAdr (o3.rowArrN 0 rfl) (by omega) st30 rfl rfl rfl ?_)
          refine StillVC.run (StillVC.loadFF (o3.rowArrN 0 rfl) ty3 (fun _ => rfl) rfl (by assumption) rfl ?_)
          refine Br.dec (fun hc => absurd hc (by omega)) (fun c203 => ?_)
          refine DrawVC.intro [0, 1, 2, 3, 4, 6, 7, 8, 9, 10, 11, 12, 13, 14, 15, 17, 18, 19, 20, 21, 22, 23, 24, 25, 26, 27, 29, 30, 31, 32, 33, 34, 35, 37, 38] [5, 16, 28, 36] [] [0, 1, 2, 3, 4, 5, 6, 7, 8, 9, 10, 11, 12, 13, 14, 15, 16, 17, 18, 19, 20, 21, 22, 23, 24, 25, 26, 27, 28, 29, 30, 31, 32, 33, 34, 35, 36, 37, 38] mixed (by kernel_rfl) rfl (fun _ _ _ _ h => h) ?_
          refine StillVC.idxN sl23 ty30 (o3.rowArrN 0 rfl) rfl (by omega) (by omega) ?_
          refine StillVC.fieldAdr (o3.rowArrN 0 rfl) (by omega) st30 rfl rfl rfl ?_
          refine StillVC.loadFF (o3.rowArrN 0 rfl) ty9 (fun _ => rfl) rfl (by assumption) rfl ?_
          refine StillVC.lenS rfl str9 ?_
          refine Ar.i64 (by omega) (by omega) ?_
          refine StillVC.lenS rfl str9 ?_
          refine Br.dec (fun hc => absurd hc (by omega)) (fun c209 => ?_)
          refine StillVC.idxN sl23 ty30 (o3.rowArrN 0 rfl) rfl (by omega) (by omega) ?_
          refine StillVC.fieldAdr (o3.rowArrN 0 rfl) (by omega) st30 rfl rfl rfl ?_
          refine StillVC.loadFF (o3.rowArrN 0 rfl) ty9 (fun _ => rfl) rfl (by assumption) rfl ?_
          refine StillVC.lenS rfl str9 ?_
          refine Br.dec (fun hc => absurd hc (by omega)) (fun c214 => ?_)
          refine StillVC.idxN sl23 ty30 (o3.rowArrN 0 rfl) rfl (by omega) (by omega) ?_
          refine StillVC.fieldAdr (o3.rowArrN 0 rfl) (by omega) st30 rfl rfl rfl ?_
          refine StillVC.loadFF (o3.rowArrN 0 rfl) ty9 (fun _ => rfl) rfl (by assumption) rfl ?_
          refine StillVC.lenS rfl str9 ?_
          refine Ar.i64 (by omega) (by omega) ?_
          refine StillVC.sliceS str9 rfl ⟨_, rfl⟩ ⟨_, rfl⟩ (by omega) (by omega) (by omega) ?_
          refine StillVC.idxN sl23 ty30 (o3.rowArrN 0 rfl) rfl (by omega) (by omega) ?_
          refine StillVC.fieldAdr (o3.rowArrN 0 rfl) (by omega) st30 rfl rfl rfl ?_
          refine StillVC.loadFF (o3.rowArrN 0 rfl) ty9 (fun _ => rfl) rfl (by assumption) rfl ?_
          refine Br.ndec (fun hc => absurd (by first | omega | assumption | decide | exact rfl) hc) (fun c223 => ?_)
          refine StillVC.run (StillVC.idxN sl23 ty30 (o3.rowArrN 0 rfl) rfl (by omega) (by omega) ?_)
          refine StillVC.run (StillVC.fieldAdr (o3.rowArrN 0 rfl) (by omega) st30 rfl rfl rfl ?_)
          refine StillVC.run (StillVC.loadFF (o3.rowArrN 0 rfl) ty9 (fun _ => rfl) rfl (by assumption) rfl ?_)
          refine StillVC.run (StillVC.lenS rfl str9 ?_)
          refine Ar.i64 (by omega) (by omega) ?_
          refine Ar.i64 (by omega) (by omega) ?_
          refine ⟨rfl, ?_⟩
          exact ⟨⟨e + g + len, q + 1, by omega, by omega, by rw [hyo, hyl]; rfl, hrest, o3⟩, by simp; omega⟩
      · have hd : ts.drop q = [] := List.drop_of_length_le (by omega)
        rw [hd] at hGe
        rcases hGe.inv_ok with ⟨_, hall⟩ | ⟨_, _, _, _, _, _, _, hts, _⟩
        · have e2 : List.drop (e : Int).toNat (List.take (Int.toNat (t.length : Nat)) t) = t.drop e := by simp
          refine StillVC.run (StillVC.lenN (oh.rowArrN 0 rfl) sl23 ?_)
          refine Br.dec (fun hc => absurd hc (by omega)) (fun c301 => ?_)
          refine Br.tt ?_
          refine Br.tt ?_
          refine StillVC.run (StillVC.sliceS str9 rfl ⟨_, rfl⟩ rfl (by omega) (by omega) (by omega) ?_)
          rw [e2]
          refine CallVC.ret (rgaps_spec _ _ (by simp; omega)) ?_
          rintro _ h3 ⟨rfl, oc⟩
          have o3 := oh.ext' oc
          rw [decide_eq_true hall]
          refine RetVC.one rfl ?_
          exact ⟨rfl, o3.sel [] rfl⟩
        · cases hts

end Go.Proofs.YtofbiladpmcjgaaDoor
