/-
  The statement SketchBands of chapter 5, walked.
-/
import Derived.Test.YtmehgkkpabbmcaaDoorStructs
import Derived.Test.YtmehgkkpabbmcaaDoorFnHead
import Derived.Test.YtmehgkkpabbmcaaDoorFnLawS
import Derived.Test.YtmehgkkpabbmcaaDoorDec
namespace Go.Proofs.YtmehgkkpabbmcaaDoor
open Go

theorem join_inj : ∀ {ss ts : List (List UInt8)}, ss.length = ts.length → (∀ s ∈ ss, (46 : UInt8) ∉ s) → (∀ s ∈ ts, (46 : UInt8) ∉ s) → Lib.join ss [46] = Lib.join ts [46] → ss = ts
  | [], [], _, _, _, _ => rfl
  | [], _ :: _, h, _, _, _ => by simp at h
  | _ :: _, [], h, _, _, _ => by simp at h
  | [x], [y], _, _, _, h => by rw [Lib.join_one, Lib.join_one] at h; rw [h]
  | [_], _ :: _ :: _, h, _, _, _ => by simp at h
  | _ :: _ :: _, [_], h, _, _, _ => by simp at h
  | x :: x2 :: xs, y :: y2 :: ys, hl, hs, ht, h => by
    rw [join_cons2, join_cons2, List.append_assoc, List.append_assoc, List.singleton_append, List.singleton_append] at h
    obtain ⟨rfl, h2⟩ := cut_inj (hs x (by simp)) (ht y (by simp)) h
    rw [join_inj (by simpa using hl) (fun s hm => hs s (by simp [hm])) (fun s hm => ht s (by simp [hm])) h2]

theorem itoa_nn {x : Int} (h : 0 ≤ x) : Lib.itoa x = Lib.decDigits x.toNat := by
  rw [← Lib.itoa_nonneg, Int.toNat_of_nonneg h]

theorem map_itoa_inj : ∀ {us vs : List Int}, (∀ x ∈ us, 0 ≤ x) → (∀ x ∈ vs, 0 ≤ x) → us.map Lib.itoa = vs.map Lib.itoa → us = vs
  | [], [], _, _, _ => rfl
  | [], _ :: _, _, _, h => by simp at h
  | _ :: _, [], _, _, h => by simp at h
  | x :: xs, y :: ys, hx, hy, h => by
    simp only [List.map_cons, List.cons.injEq] at h
    have h1 := h.1
    have x0 := hx x (by simp)
    have y0 := hy y (by simp)
    rw [itoa_nn x0, itoa_nn y0] at h1
    have := dec_inj h1
    rw [map_itoa_inj (fun z hz => hx z (by simp [hz])) (fun z hz => hy z (by simp [hz])) h.2, show x = y by omega]

theorem key_inj {a b : List Int} {r i k : Nat} (ha : ∀ x ∈ a, 0 ≤ x) (hb : ∀ x ∈ b, 0 ≤ x) (hl : i = k → ((a.drop (i * r)).take r).length = ((b.drop (k * r)).take r).length) :
    keyL a r i = keyL b r k ↔ i = k ∧ (a.drop (i * r)).take r = (b.drop (k * r)).take r := by
  constructor
  · intro h
    unfold keyL at h
    rw [List.append_assoc, List.append_assoc, List.singleton_append, List.singleton_append, Lib.itoa_nonneg, Lib.itoa_nonneg] at h
    obtain ⟨h1, h2⟩ := cut_inj (notMem_dec (by decide) i) (notMem_dec (by decide) k) h
    have hik := dec_inj h1
    refine ⟨hik, ?_⟩
    have h46 : ∀ (l : List Int), (∀ x ∈ l, 0 ≤ x) → ∀ s ∈ l.map Lib.itoa, (46 : UInt8) ∉ s := by
      intro l hl s hs
      obtain ⟨x, hx, rfl⟩ := List.mem_map.1 hs
      rw [itoa_nn (hl x hx)]
      exact notMem_dec (by decide) _
    have sa : ∀ x ∈ (a.drop (i * r)).take r, 0 ≤ x := fun x hx => ha x (List.mem_of_mem_drop (List.mem_of_mem_take hx))
    have sb : ∀ x ∈ (b.drop (k * r)).take r, 0 ≤ x := fun x hx => hb x (List.mem_of_mem_drop (List.mem_of_mem_take hx))
    unfold partsL at h2
    have h3 := join_inj (by simpa only [List.length_map] using hl hik) (h46 _ sa) (h46 _ sb) h2
    exact map_itoa_inj sa sb h3
  · rintro ⟨rfl, h⟩
    unfold keyL partsL
    rw [h]

set_option maxHeartbeats 1600000 in
set_option maxRecDepth 100000 in
theorem bandsLaw_spec (a b : List Int) (va vb : Value) (rows : Int) (h : Heap) (a0 : Arr h va (ints a)) (b0 : Arr h vb (ints b))
    (la : a.length ≤ 140737488351232) (lb : b.length ≤ 140737488351232) (r0 : -9223372036854775808 ≤ rows) (r1 : rows ≤ 9223372036854775807) (ht : TabH h) :
    SpecR Tryd.prog 7 [va, vb, .int .i64 rows] h fun r h' => r = .bool true ∧ Own h [] h' := by
  refine Spec.enter Tryd.func7 rfl Tryd.ntmps7 (by kernel_rfl) ?_
  have xa : (ints a).length = a.length := by simp
  have xb : (ints b).length = b.length := by simp
  refine CallVC.ret (head_spec h ht) ?_
  rintro _ h1 ⟨rfl, o1⟩
  by_cases ha : 100 < a.length
  · refine StillVC.run (StillVC.lenAn (a0.ext o1.ext) (by assumption) sl23 ?_)
    refine Br.dec (fun c31 => ?_) (fun hc => absurd (by omega) hc)
    refine Br.tt ?_
    refine RetVC.one rfl ?_
    exact ⟨rfl, o1⟩
  by_cases hab : a.length = b.length
  · refine StillVC.run (StillVC.lenAn (a0.ext o1.ext) (by assumption) sl23 ?_)
    refine Br.dec (fun hc => absurd hc (by omega)) (fun c41 => ?_)
    refine StillVC.run (StillVC.lenAn (a0.ext o1.ext) (by assumption) sl23 ?_)
    refine StillVC.run (StillVC.lenAn (b0.ext o1.ext) (by assumption) sl23 ?_)
    refine Br.ndec (fun hc => absurd (by first | omega | assumption | decide | exact rfl) hc) (fun c44 => ?_)
    refine CallVC.ret (bands_spec a rows va _ (a0.ext o1.ext) (by omega) r0 r1 (ht.ext o1.ext)) ?_
    rintro _ h2 ⟨wx, rfl, oc⟩
    have o2 := o1.call oc
    simp only [List.nil_append] at o2
    refine CallVC.ret (bands_spec b rows vb _ (b0.ext o2.ext) (by omega) r0 r1 (ht.ext o2.ext)) ?_
    rintro _ h3 ⟨wy, rfl, oc⟩
    have o3 := o2.call oc
    simp only [List.cons_append, List.nil_append] at o3
    cases hoa : (okB a && decide (1 ≤ rows) && decide (rows ≤ a.length) && decide (a.length % rows.toNat = 0)) with
    | false =>
      have e1 : bandsR a rows = ([], 1) := by unfold bandsR; rw [hoa]; rfl
      rw [e1] at o3 ⊢
      refine Br.tt ?_
      refine Br.tt ?_
      refine Br.tt ?_
      refine Br.ff ?_
      refine Br.tt ?_
      refine StillVC.run (StillVC.lenA (o3.roArr 0 rfl) sl22 ?_)
      refine RetVC.one rfl ?_
      exact ⟨rfl, o3.sel [] rfl⟩
    | true =>
      have e1 : bandsR a rows = (bandsL a rows.toNat, 0) := by unfold bandsR; rw [hoa]; rfl
      rw [e1] at o3 ⊢
      cases hob : (okB b && decide (1 ≤ rows) && decide (rows ≤ b.length) && decide (b.length % rows.toNat = 0)) with
      | false =>
        have e2 : bandsR b rows = ([], 1) := by unfold bandsR; rw [hob]; rfl
        rw [e2] at o3 ⊢
        refine Br.ndec (fun hc => absurd (by first | omega | assumption | decide | exact rfl) hc) (fun c70 => ?_)
        refine Br.tt ?_
        refine Br.tt ?_
        refine Br.dec (fun c71 => ?_) (fun hc => absurd (by omega) hc)
        refine RetVC.one rfl ?_
        exact ⟨rfl, o3.sel [] rfl⟩
      | true =>
        have e2 : bandsR b rows = (bandsL b rows.toNat, 0) := by unfold bandsR; rw [hob]; rfl
        rw [e2] at o3 ⊢
        simp only [Bool.and_eq_true, decide_eq_true_eq] at hoa hob
        obtain ⟨⟨⟨ka, hr1⟩, hr2⟩, hr3⟩ := hoa
        obtain ⟨⟨⟨kb, _⟩, _⟩, _⟩ := hob
        have sa := okB_spec ka
        have sb := okB_spec kb
        have ha0 : ∃ x0, a[Int.toNat 0]? = some x0 ∧ x0 = a.headD 0 := ⟨_, headD_get sa.1, rfl⟩
        obtain ⟨x0, ha0, hx0⟩ := ha0
        obtain ⟨rn, rfl⟩ : ∃ rn : Nat, rows = rn := ⟨rows.toNat, by omega⟩
        simp only [Int.toNat_natCast] at o3 hr3 ⊢
        by_cases hea : a.headD 0 = -1
        · have el : bandsL a rn = [] := by unfold bandsL; rw [if_pos hea]
          rw [el] at o3
          have hdec : decide (((strs []).length : Int) = 0) = decide (x0 < 0) := by rw [decide_eq_true (by simp), decide_eq_true (by omega)]
          refine Br.ff ?_
          refine Br.ff ?_
          refine Br.dec (fun hc => absurd hc (by omega)) (fun c80 => ?_)
          refine StillVC.run (StillVC.lenAn (a0.ext o3.ext) (by assumption) sl23 ?_)
          refine Br.dec (fun hc => absurd hc (by omega)) (fun c82 => ?_)
          refine StillVC.run (StillVC.lenA (o3.roArr 0 rfl) sl22 ?_)
          refine Br.ff ?_
          refine StillVC.run (StillVC.lenA (o3.roArr 0 rfl) sl22 ?_)
          refine StillVC.run (StillVC.idx sl23 ty3 (a0.ext o3.ext) rfl (by omega) (by omega) ?_)
          refine StillVC.run (StillVC.loadM (a0.ext o3.ext) ty3 rfl (by first | assumption | rfl) ?_)
          refine StillVC.run (StillVC.neB bool4 rfl rfl ?_)
          refine Br.ndec (fun hc => absurd (by first | omega | assumption | decide | exact rfl) hc) (fun c88 => ?_)
          refine LoopVC.intro [6, 12, 13, 14, 15, 91, 92, 93, 94, 95, 96, 97, 98, 99, 100, 101, 102, 103, 104, 105, 106, 107, 108, 109, 110, 111, 112, 113, 114, 115, 116, 117, 118, 119, 120, 121, 122, 123, 124, 125, 126, 127, 128, 129, 130, 131, 132, 133, 134, 135, 136, 137, 138, 139, 140, 141, 142, 143, 144, 145, 146, 147, 148, 149, 150, 151] [12] (fun vs hh => vs = [.int .i64 0] ∧ Own h [ro wx (strs []), ro wy (strs (bandsL b rn))] hh) (fun vs _ => 0) ?_ ?_
          · exact ⟨rfl, o3⟩
          · clear o3
            rintro vs junk h4 ⟨rfl, o4⟩
            refine StillVC.run (StillVC.lenA (o4.roArr 0 rfl) sl22 ?_)
            refine Br.ff ?_
            refine RetVC.one rfl ?_
            exact ⟨rfl, o4.sel [] rfl⟩
        · have el : bandsL a rn = (List.range (a.length / rn)).map fun i => keyL a rn i := by unfold bandsL; rw [if_neg hea]
          have ll : (bandsL a rn).length = a.length / rn := by rw [el]; simp
          have ll' : (strs (bandsL a rn)).length = a.length / rn := by simp [ll]
          have l1 : 1 ≤ a.length / rn := (Nat.le_div_iff_mul_le (by omega)).2 (by omega)
          have hx1 : 0 ≤ x0 := by
            have h5 := (sa.2.2 x0 (List.mem_of_getElem? ha0))
            omega
          have hcast : ((a.length / rn : Nat) : Int) = (a.length : Int) / (rn : Int) := Int.natCast_ediv _ _
          have hdec : decide (((a.length / rn : Nat) : Int) = 0) = decide (x0 < 0) := by rw [decide_eq_false (by omega), decide_eq_false (by omega)]
          have hq : a.length / rn ≤ 100 := by have := Nat.div_le_self a.length rn; omega
          have haa : ∀ x ∈ a, 0 ≤ x := fun x hx => by
            have h5 := sa.2.2 x hx
            have h6 := sa.2.2 x0 (List.mem_of_getElem? ha0)
            omega
          have hlb : (bandsL b rn).length ≤ 100 := by
            have := Nat.div_le_self b.length rn
            unfold bandsL; split
            · simp
            · simp; omega
          have hlb' : (strs (bandsL b rn)).length = (bandsL b rn).length := by simp
          have hyk : ∀ {k : Nat} {y : List UInt8}, (bandsL b rn)[k]? = some y → y = keyL b rn k ∧ k < b.length / rn ∧ ∀ x ∈ b, 0 ≤ x := by
            intro k y hy
            unfold bandsL at hy
            split at hy
            · simp at hy
            · rename_i hne
              obtain ⟨hk, he⟩ := List.getElem?_eq_some_iff.1 hy
              simp only [List.length_map, List.length_range] at hk
              simp at he
              refine ⟨he.symm, hk, fun x hx => ?_⟩
              have h5 := sb.2.2 x hx
              have h6 := sb.2.2 (b.headD 0) (headD_mem sb.1)
              omega
          refine Br.ff ?_
          refine Br.ff ?_
          refine Br.dec (fun hc => absurd hc (by omega)) (fun c90 => ?_)
          refine StillVC.run (StillVC.lenAn (a0.ext o3.ext) (by assumption) sl23 ?_)
          refine Br.dec (fun hc => absurd hc (by omega)) (fun c92 => ?_)
          refine StillVC.run (StillVC.lenAn (o3.roArr 0 rfl) (by assumption) sl22 ?_)
          refine Br.ndec (fun c94 => ?_) (fun hc => absurd hc (by first | omega | assumption | decide | exact rfl))
          refine StillVC.run (StillVC.lenAn (o3.roArr 0 rfl) (by assumption) sl22 ?_)
          refine StillVC.run (StillVC.lenAn (a0.ext o3.ext) (by assumption) sl23 ?_)
          refine StillVC.run (StillVC.quoE rfl rfl (by omega) (by omega) (by simp [IntKind.max, IntKind.signed, IntKind.bits]; omega) ?_)
          refine Br.ndec (fun hc => absurd (by first | omega | assumption | decide | exact rfl) hc) (fun c98 => ?_)
          refine StillVC.run (StillVC.lenAn (o3.roArr 0 rfl) (by assumption) sl22 ?_)
          refine StillVC.run (StillVC.idx sl23 ty3 (a0.ext o3.ext) rfl (by omega) (by omega) ?_)
          refine StillVC.run (StillVC.loadM (a0.ext o3.ext) ty3 rfl (by first | assumption | rfl) ?_)
          refine StillVC.run (StillVC.neB bool4 rfl rfl ?_)
          refine Br.ndec (fun hc => absurd (by first | omega | assumption | decide | exact rfl) hc) (fun c103 => ?_)
          refine LoopVC.intro [6, 12, 13, 14, 15, 91, 92, 93, 94, 95, 96, 97, 98, 99, 100, 101, 102, 103, 104, 105, 106, 107, 108, 109, 110, 111, 112, 113, 114, 115, 116, 117, 118, 119, 120, 121, 122, 123, 124, 125, 126, 127, 128, 129, 130, 131, 132, 133, 134, 135, 136, 137, 138, 139, 140, 141, 142, 143, 144, 145, 146, 147, 148, 149, 150, 151] [12] (fun vs hh => ∃ i : Nat, i ≤ a.length / rn ∧ vs = [.int .i64 i] ∧ Own h [ro wx (strs (bandsL a rn)), ro wy (strs (bandsL b rn))] hh) (fun vs _ => match vs with | [.int _ i] => a.length / rn - i.toNat | _ => 0) ?_ ?_
          · exact ⟨0, by omega, rfl, o3⟩
          · clear o3
            rintro vs junk h4 ⟨i, hi, rfl, o4⟩
            by_cases hlt : i < a.length / rn
            · have hxi : (bandsL a rn)[i]? = some (keyL a rn i) := by rw [el]; simp [hlt]
              have hm1 : (i : Int) * rn = ((i * rn : Nat) : Int) := by simp
              have hm2 : ((i : Int) + 1) * rn = ((i * rn + rn : Nat) : Int) := by simp [Int.add_mul]
              have hm3 : i * rn + rn ≤ a.length := by
                have := (Nat.le_div_iff_mul_le (show 0 < rn by omega)).1 (show i + 1 ≤ a.length / rn by omega)
                rw [Nat.add_mul, Nat.one_mul] at this; exact this
              refine StillVC.run (StillVC.lenAn (o4.roArr 0 rfl) (by assumption) sl22 ?_)
              refine Br.dec (fun c111 => ?_) (fun hc => absurd (by omega) hc)
              refine LoopVC.intro [6, 13, 14, 97, 98, 99, 100, 101, 102, 103, 104, 105, 106, 107, 108, 109, 110, 111, 112, 113, 114, 115, 116, 117, 118, 119, 120, 121, 122, 123, 124, 125, 126, 127, 128, 129, 130, 131, 132, 133, 134, 135, 136, 137] [13] (fun vs hh => ∃ k : Nat, k ≤ (bandsL b rn).length ∧ vs = [.int .i64 k] ∧ Own h [ro wx (strs (bandsL a rn)), ro wy (strs (bandsL b rn))] hh) (fun vs _ => match vs with | [.int _ k] => (bandsL b rn).length - k.toNat | _ => 0) ?_ ?_
              · exact ⟨0, by omega, rfl, o4⟩
              · clear o4
                rintro vs junk h5 ⟨k, hk, rfl, o5⟩
                by_cases hlt2 : k < (bandsL b rn).length
                · obtain ⟨y, hy⟩ := getx hlt2
                  obtain ⟨hy1, hk1, hb0⟩ := hyk hy
                  by_cases hik : i = k
                  · subst hik
                    have hkey := key_inj (a := a) (b := b) (r := rn) (i := i) (k := i) haa hb0 (fun _ => by simp only [List.length_take, List.length_drop]; omega)
                    have eS : ∀ l : List Int, ((ints l).drop ((i : Int) * rn).toNat).take ((((i : Int) + 1) * rn).toNat - ((i : Int) * rn).toNat) = ints ((l.drop (i * rn)).take rn) := by
                      intro l
                      rw [hm1, hm2, Int.toNat_natCast, Int.toNat_natCast, Nat.add_sub_cancel_left, ← List.map_drop, ← List.map_take]
                    refine StillVC.run (StillVC.lenAn (o5.roArr 1 rfl) (by assumption) sl22 ?_)
                    refine Br.dec (fun c121 => ?_) (fun hc => absurd (by omega) hc)
                    refine DrawVC.intro [0, 1, 2, 3, 4, 5, 6, 7, 8, 9, 10, 11, 12, 13, 14, 15, 16, 17, 18, 19, 20, 21, 23, 24] [] [22] [0, 1, 2, 3, 4, 5, 6, 7, 8, 9, 10, 11, 12, 13, 14, 15, 16, 17, 18, 19, 20, 21, 22, 23, 24] mixed (by kernel_rfl) rfl (fun _ _ _ _ h => h) ?_
                    refine Br.dec (fun c122 => ?_) (fun hc => absurd (by omega) hc)
                    refine Ar.i64 (by omega) (by omega) ?_
                    refine Ar.i64 (by omega) (by omega) ?_
                    refine Ar.i64 (by omega) (by omega) ?_
                    (refine StillVC.sliceLH sl23 ty3 (a0.ext o5.ext) rfl rfl (by omega) (by omega) (by simp; omega) ?_; intro v123 a123)
                    refine Ar.i64 (by omega) (by omega) ?_
                    refine Ar.i64 (by omega) (by omega) ?_
                    refine Ar.i64 (by omega) (by omega) ?_
                    (refine StillVC.sliceLH sl23 ty3 (b0.ext o5.ext) rfl rfl (by omega) (by omega) (by simp; omega) ?_; intro v124 a124)
                    rw [eS] at a123 a124
                    refine CallVC.ret (refInts_spec _ _ _ _ _ a123 a124 (by simp only [List.length_take]; omega)) ?_
                    rintro _ h6 ⟨rfl, oc⟩
                    have o6 := o5.ext' oc
                    have hdd : decide (keyL a rn i = y) = decide ((a.drop (i * rn)).take rn = (b.drop (i * rn)).take rn) := by
                      rw [hy1, decide_eq_decide, hkey]; simp
                    clear o5
                    refine DrawVC.intro [0, 1, 2, 4, 5, 6, 8, 9, 10] [3, 7] [] [0, 1, 2, 3, 4, 5, 6, 7, 8, 9, 10] mixed (by kernel_rfl) rfl (fun _ _ _ _ h => h) ?_
                    refine StillVC.idx sl22 ty9 (o6.roArr 0 rfl) rfl (by omega) (by omega) ?_
                    refine StillVC.loadM (o6.roArr 0 rfl) ty9 rfl (by first | assumption | rfl) ?_
                    refine StillVC.idx sl22 ty9 (o6.roArr 1 rfl) rfl (by omega) (by omega) ?_
                    refine StillVC.loadM (o6.roArr 1 rfl) ty9 rfl (by first | assumption | rfl) ?_
                    refine StillVC.neB bool4 rfl rfl ?_
                    refine Br.ndec (fun hc => absurd (by first | omega | assumption | decide | exact rfl) hc) (fun c135 => ?_)
                    refine Ar.i64 (by omega) (by omega) ?_
                    refine ⟨rfl, ?_⟩
                    exact ⟨⟨i + 1, by omega, rfl, o6⟩, by simp; omega⟩
                  · have hne : ¬ keyL a rn i = y := by
                      rw [hy1]
                      intro h
                      exact hik ((key_inj (a := a) (b := b) (r := rn) (i := i) (k := k) haa hb0 (fun h => absurd h hik)).1 h).1
                    have hdne : decide (keyL a rn i = y) = false := decide_eq_false hne
                    refine StillVC.run (StillVC.lenAn (o5.roArr 1 rfl) (by assumption) sl22 ?_)
                    refine Br.dec (fun c141 => ?_) (fun hc => absurd (by omega) hc)
                    refine DrawVC.intro [0, 1, 2, 3, 4, 5, 6, 7, 8, 9, 10, 11, 12, 13, 14, 15, 16, 17, 18, 19, 20, 21, 23, 24] [] [22] [0, 1, 2, 3, 4, 5, 6, 7, 8, 9, 10, 11, 12, 13, 14, 15, 16, 17, 18, 19, 20, 21, 22, 23, 24] mixed (by kernel_rfl) rfl (fun _ _ _ _ h => h) ?_
                    refine Br.dec (fun hc => absurd hc (by omega)) (fun c142 => ?_)
                    refine DrawVC.intro [0, 1, 2, 4, 5, 6, 8, 9, 10] [3, 7] [] [0, 1, 2, 3, 4, 5, 6, 7, 8, 9, 10] mixed (by kernel_rfl) rfl (fun _ _ _ _ h => h) ?_
                    refine StillVC.idx sl22 ty9 (o5.roArr 0 rfl) rfl (by omega) (by omega) ?_
                    refine StillVC.loadM (o5.roArr 0 rfl) ty9 rfl (by first | assumption | rfl) ?_
                    refine StillVC.idx sl22 ty9 (o5.roArr 1 rfl) rfl (by omega) (by omega) ?_
                    refine StillVC.loadM (o5.roArr 1 rfl) ty9 rfl (by first | assumption | rfl) ?_
                    refine StillVC.neB bool4 rfl rfl ?_
                    refine Br.ndec (fun hc => absurd (by first | omega | assumption | decide | exact rfl) hc) (fun c148 => ?_)
                    refine Ar.i64 (by omega) (by omega) ?_
                    refine ⟨rfl, ?_⟩
                    exact ⟨⟨k + 1, by omega, rfl, o5⟩, by simp; omega⟩
                · refine StillVC.run (StillVC.lenAn (o5.roArr 1 rfl) (by assumption) sl22 ?_)
                  refine Br.dec (fun hc => absurd hc (by omega)) (fun c161 => ?_)
                  refine LoopVC.intro [6, 15, 138, 139, 140, 141, 142, 143, 144, 145, 146, 147, 148, 149, 150, 151] [15] (fun vs hh => ∃ k : Nat, k ≤ i ∧ vs = [.int .i64 k] ∧ Own h [ro wx (strs (bandsL a rn)), ro wy (strs (bandsL b rn))] hh) (fun vs _ => match vs with | [.int _ k] => i - k.toNat | _ => 0) ?_ ?_
                  · exact ⟨0, by omega, rfl, o5⟩
                  · clear o5
                    rintro vs junk h6 ⟨k, hk, rfl, o6⟩
                    by_cases hlt3 : k < i
                    · have hxk : (bandsL a rn)[k]? = some (keyL a rn k) := by rw [el]; simp [show k < a.length / rn by omega]
                      have hne : ¬ keyL a rn i = keyL a rn k := fun h => by
                        have := ((key_inj (a := a) (b := a) (r := rn) (i := i) (k := k) haa haa (fun h => absurd h (by omega))).1 h).1
                        omega
                      refine Br.dec (fun c170 => ?_) (fun hc => absurd (by omega) hc)
                      refine DrawVC.intro [0, 1, 2, 4, 5, 6, 8] [3, 7] [] [0, 1, 2, 3, 4, 5, 6, 7, 8] mixed (by kernel_rfl) rfl (fun _ _ _ _ h => h) ?_
                      refine StillVC.idx sl22 ty9 (o6.roArr 0 rfl) rfl (by omega) (by omega) ?_
                      refine StillVC.loadM (o6.roArr 0 rfl) ty9 rfl (by first | assumption | rfl) ?_
                      refine StillVC.idx sl22 ty9 (o6.roArr 0 rfl) rfl (by omega) (by omega) ?_
                      refine StillVC.loadM (o6.roArr 0 rfl) ty9 rfl (by first | assumption | rfl) ?_
                      refine Br.dec (fun hc => absurd hc (by omega)) (fun c175 => ?_)
                      refine Ar.i64 (by omega) (by omega) ?_
                      refine ⟨rfl, ?_⟩
                      exact ⟨⟨k + 1, by omega, rfl, o6⟩, by simp; omega⟩
                    · refine Br.dec (fun hc => absurd hc (by omega)) (fun c180 => ?_)
                      refine Ar.i64 (by omega) (by omega) ?_
                      refine ⟨rfl, ?_⟩
                      exact ⟨⟨i + 1, by omega, rfl, o6⟩, by simp; omega⟩
            · refine StillVC.run (StillVC.lenAn (o4.roArr 0 rfl) (by assumption) sl22 ?_)
              refine Br.dec (fun hc => absurd hc (by omega)) (fun c121 => ?_)
              refine RetVC.one rfl ?_
              exact ⟨rfl, o4.sel [] rfl⟩
  · refine StillVC.run (StillVC.lenAn (a0.ext o1.ext) (by assumption) sl23 ?_)
    refine Br.dec (fun hc => absurd hc (by omega)) (fun c41 => ?_)
    refine StillVC.run (StillVC.lenAn (a0.ext o1.ext) (by assumption) sl23 ?_)
    refine StillVC.run (StillVC.lenAn (b0.ext o1.ext) (by assumption) sl23 ?_)
    refine Br.ndec (fun c44 => ?_) (fun hc => absurd hc (by first | omega | assumption | decide | exact rfl))
    refine RetVC.one rfl ?_
    exact ⟨rfl, o1⟩

end Go.Proofs.YtmehgkkpabbmcaaDoor
