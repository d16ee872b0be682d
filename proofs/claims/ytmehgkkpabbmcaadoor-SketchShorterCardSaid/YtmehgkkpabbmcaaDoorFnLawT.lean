/-
  The statement SketchShorter of chapter 5, walked.
-/
import Derived.Test.YtmehgkkpabbmcaaDoorStructs
import Derived.Test.YtmehgkkpabbmcaaDoorFnHead
import Derived.Test.YtmehgkkpabbmcaaDoorFnLawS
namespace Go.Proofs.YtmehgkkpabbmcaaDoor
open Go

set_option maxRecDepth 100000 in
theorem shorter_spec (ss : List (List UInt8)) (v : Value) (raw other : Int) (h : Heap) (a0 : Arr h v (strs ss)) (hl : ss.length ≤ 140737488351232) (r0 : 0 ≤ raw) (r1 : raw ≤ 255) (q0 : 0 ≤ other) (q1 : other ≤ 255) (ht : TabH h) :
    SpecR Tryd.prog 9 [v, .int .u8 raw, .int .u8 other] h fun r h' => r = .bool true ∧ Own h [] h' := by
  refine Spec.enter Tryd.func9 rfl Tryd.ntmps9 (by kernel_rfl) ?_
  have ls : (strs ss).length = ss.length := by simp
  refine CallVC.ret (head_spec h ht) ?_
  rintro _ h1 ⟨rfl, o1⟩
  refine CallVC.ret (few_spec ss v _ (a0.ext o1.ext) hl) ?_
  rintro _ h2 ⟨rfl, oc⟩
  have o2 := o1.ext' oc
  clear oc o1
  cases hf : fewB ss with
  | false =>
    refine Br.tt ?_
    refine RetVC.one rfl ?_
    exact ⟨rfl, o2⟩
  | true =>
    have hS := fewB_short hf
    obtain ⟨hf1, hf2⟩ := fewB_spec hf
    have n1 : 1 ≤ min (1 + raw % 64) (1 + other % 64) ∧ min (1 + raw % 64) (1 + other % 64) ≤ max (1 + raw % 64) (1 + other % 64) ∧ max (1 + raw % 64) (1 + other % 64) ≤ 64 := by omega
    obtain ⟨m, hm⟩ : ∃ m, min (1 + raw % 64) (1 + other % 64) = m := ⟨_, rfl⟩
    obtain ⟨n, hn⟩ : ∃ n, max (1 + raw % 64) (1 + other % 64) = n := ⟨_, rfl⟩
    rw [hm, hn] at n1
    have hmm : makeR ss m = (makeL ss m.toNat, 0) := by simp [makeR]; omega
    have hmn : makeR ss n = (makeL ss n.toNat, 0) := by simp [makeR]; omega
    refine Br.ff ?_
    refine StillVC.run (StillVC.convI rfl int5 int3 ?_)
    refine Ar.i64 (by omega) (by omega) ?_
    refine StillVC.run (StillVC.remE rfl rfl (by omega) (by omega) ?_)
    refine Ar.i64 (by omega) (by omega) ?_
    refine StillVC.run (StillVC.convI rfl int5 int3 ?_)
    refine Ar.i64 (by omega) (by omega) ?_
    refine StillVC.run (StillVC.remE rfl rfl (by omega) (by omega) ?_)
    refine Ar.i64 (by omega) (by omega) ?_
    refine StillVC.run (StillVC.min2 rfl rfl ?_)
    rw [hm]
    refine CallVC.ret (make_spec v ss m _ (a0.ext o2.ext) hS) ?_
    rintro _ h3 ⟨wa, rfl, oc⟩
    rw [hmm] at oc ⊢
    have o3 := o2.call oc
    simp only [List.nil_append] at o3
    clear oc o2
    refine StillVC.run (StillVC.max2 rfl rfl ?_)
    rw [hn]
    refine CallVC.ret (make_spec v ss n _ (a0.ext o3.ext) hS) ?_
    rintro _ h4 ⟨wb, rfl, oc⟩
    rw [hmn] at oc ⊢
    have o4 : Own h [ro wa (ints (makeL ss m.toNat)), ro wb (ints (makeL ss n.toNat))] h4 := o3.call oc
    clear oc o3
    have lm := makeL_length ss m.toNat
    have ln := makeL_length ss n.toNat
    have lm' : (ints (makeL ss m.toNat)).length = m.toNat := by simp [lm]
    have ln' : (ints (makeL ss n.toNat)).length = n.toNat := by simp [ln]
    refine Br.ndec (fun hc => absurd (by first | omega | assumption | decide | exact rfl) hc) (fun c60 => ?_)
    refine Br.ndec (fun hc => absurd (by first | omega | assumption | decide | exact rfl) hc) (fun c61 => ?_)
    refine StillVC.run (StillVC.lenAn (o4.roArr 0 rfl) (by assumption) sl23 ?_)
    refine StillVC.run (StillVC.min2 rfl rfl ?_)
    refine Br.ndec (fun hc => absurd (by first | omega | assumption | decide | exact rfl) hc) (fun c64 => ?_)
    refine StillVC.run (StillVC.lenAn (o4.roArr 1 rfl) (by assumption) sl23 ?_)
    refine StillVC.run (StillVC.max2 rfl rfl ?_)
    refine Br.ndec (fun hc => absurd (by first | omega | assumption | decide | exact rfl) hc) (fun c67 => ?_)
    refine StillVC.run (StillVC.lenAn (o4.roArr 0 rfl) (by assumption) sl23 ?_)
    (refine StillVC.run (StillVC.sliceH sl23 ty3 (o4.roArr 1 rfl) rfl (by omega) (by simp; omega) ?_); intro v69 a69)
    have e1 : List.take (m.toNat : Int).toNat (ints (makeL ss n.toNat)) = ints (makeL ss m.toNat) := by
      rw [← List.map_take, Int.toNat_natCast, makeL, ← List.map_take, List.take_range, Nat.min_eq_left (by omega)]
      rfl
    rw [e1] at a69
    refine CallVC.ret (refInts_spec _ _ _ _ _ (o4.roArr 0 rfl) a69 (by omega)) ?_
    rintro _ h5 ⟨rfl, oc⟩
    have o5 := o4.ext' oc
    clear o4 a69
    refine Br.ndec (fun hc => absurd (by first | omega | assumption | decide | exact rfl) hc) (fun c80 => ?_)
    have lb : (ints (makeL ss n.toNat)).length = n.toNat := ln'
    refine LoopVC.intro [6, 14, 15, 16, 17, 78, 79, 80, 81, 82, 83, 84, 85, 86, 87, 88, 89, 90, 91, 92, 93, 94, 95, 96, 97, 98, 99, 100, 101, 102, 103, 104, 105, 106, 107, 108, 109, 110, 111, 112, 113, 114, 115, 116, 117, 118, 119, 120, 121, 122] [14] (fun vs hh => ∃ (i : Nat), i ≤ n.toNat ∧ vs = [.int .i64 i] ∧ Own h [ro wa (ints (makeL ss m.toNat)), ro wb (ints (makeL ss n.toNat))] hh) (fun vs _ => match vs with | [.int _ i] => n.toNat - i.toNat | _ => 0) ?_ ?_
    · exact ⟨0, by omega, rfl, o5⟩
    · clear o5
      rintro vs junk h6 ⟨i, hi, rfl, o6⟩
      by_cases hlt : i < n.toNat
      · have hx : (makeL ss n.toNat)[i]? = some (leastL i ss) := makeL_get hlt
        by_cases h0 : ss.length = 0
        · have hss : ss = [] := List.eq_nil_of_length_eq_zero h0
          have hx1 : leastL i ss = -1 := by rw [hss]; rfl
          refine StillVC.run (StillVC.lenAn (o6.roArr 1 rfl) (by assumption) sl23 ?_)
          refine Br.dec (fun c91 => ?_) (fun hc => absurd (by omega) hc)
          refine StillVC.run (StillVC.lenAn (a0.ext o6.ext) (by assumption) sl22 ?_)
          refine Br.dec (fun c93 => ?_) (fun hc => absurd (by omega) hc)
          refine StillVC.run (StillVC.idx sl23 ty3 (o6.roArr 1 rfl) rfl (by omega) (by omega) ?_)
          refine StillVC.run (StillVC.loadM (o6.roArr 1 rfl) ty3 rfl (by first | assumption | rfl) ?_)
          refine LoopVC.intro [6, 15, 16, 17, 94, 95, 96, 97, 98, 99, 100, 101, 102, 103, 104, 105, 106, 107, 108, 109, 110, 111, 112, 113, 114, 115, 116, 117, 118, 119, 120] [15, 16] (fun vs hh => vs = [.bool (decide (leastL (i : Int) ss = -1)), .int .i64 0] ∧ Own h [ro wa (ints (makeL ss m.toNat)), ro wb (ints (makeL ss n.toNat))] hh) (fun vs _ => 0) ?_ ?_
          · exact ⟨rfl, o6⟩
          · clear o6
            rintro vs junk h7 ⟨rfl, o7⟩
            refine StillVC.run (StillVC.lenAn (a0.ext o7.ext) (by assumption) sl22 ?_)
            refine Br.dec (fun hc => absurd hc (by omega)) (fun c101 => ?_)
            refine Br.ndec (fun hc => absurd (by first | omega | assumption | decide | exact rfl) hc) (fun c102 => ?_)
            refine Ar.i64 (by omega) (by omega) ?_
            refine ⟨rfl, ?_⟩
            exact ⟨⟨i + 1, by omega, rfl, o7⟩, by simp; omega⟩
        · have hss : ss ≠ [] := fun e => h0 (by rw [e]; rfl)
          obtain ⟨tm, htm, hxm⟩ := leastL_mem (seed := (i : Int)) hss
          refine StillVC.run (StillVC.lenAn (o6.roArr 1 rfl) (by assumption) sl23 ?_)
          refine Br.dec (fun c111 => ?_) (fun hc => absurd (by omega) hc)
          refine StillVC.run (StillVC.lenAn (a0.ext o6.ext) (by assumption) sl22 ?_)
          refine Br.dec (fun hc => absurd hc (by omega)) (fun c113 => ?_)
          refine LoopVC.intro [6, 15, 16, 17, 94, 95, 96, 97, 98, 99, 100, 101, 102, 103, 104, 105, 106, 107, 108, 109, 110, 111, 112, 113, 114, 115, 116, 117, 118, 119, 120] [15, 16] (fun vs hh => ∃ k : Nat, k ≤ ss.length ∧ vs = [.bool ((ss.take k).any fun t => decide (hash t i = leastL i ss)), .int .i64 k] ∧ Own h [ro wa (ints (makeL ss m.toNat)), ro wb (ints (makeL ss n.toNat))] hh) (fun vs _ => match vs with | [_, .int _ k] => ss.length - k.toNat | _ => 0) ?_ ?_
          · exact ⟨0, by omega, rfl, o6⟩
          · clear o6
            rintro vs junk h7 ⟨k, hk, rfl, o7⟩
            by_cases hlt2 : k < ss.length
            · obtain ⟨t, hg⟩ := getx hlt2
              have hS1 := hS.get hg
              have hle := leastL_le (seed := (i : Int)) (List.mem_of_getElem? hg)
              have hr := hash_range t i
              refine StillVC.run (StillVC.lenAn (a0.ext o7.ext) (by assumption) sl22 ?_)
              refine Br.dec (fun c121 => ?_) (fun hc => absurd (by omega) hc)
              refine StillVC.run (StillVC.idx sl22 ty9 (a0.ext o7.ext) rfl (by omega) (by omega) ?_)
              refine StillVC.run (StillVC.loadM (a0.ext o7.ext) ty9 rfl (by first | assumption | rfl) ?_)
              refine CallVC.ret (hash_spec t i _ hS1) ?_
              rintro _ h8 ⟨rfl, oc⟩
              have o8 := o7.ext' oc
              clear o7
              have hsn : ((ss.take (k + 1)).any fun t => decide (hash t i = leastL i ss)) = (((ss.take k).any fun t => decide (hash t i = leastL i ss)) || decide (hash t i = leastL i ss)) := by
                rw [List.take_add_one, hg]; simp
              refine Br.mk (fun c130 => ?_) (fun c130 => ?_)
              refine StillVC.run (StillVC.idx sl23 ty3 (o8.roArr 1 rfl) rfl (by omega) (by omega) ?_)
              refine StillVC.run (StillVC.loadM (o8.roArr 1 rfl) ty3 rfl (by first | assumption | rfl) ?_)
              refine Br.dec (fun hc => absurd hc (by omega)) (fun c133 => ?_)
              refine Ar.i64 (by omega) (by omega) ?_
              refine ⟨rfl, ?_⟩
              rotate_left
              refine StillVC.run (StillVC.idx sl23 ty3 (o8.roArr 1 rfl) rfl (by omega) (by omega) ?_)
              refine StillVC.run (StillVC.loadM (o8.roArr 1 rfl) ty3 rfl (by first | assumption | rfl) ?_)
              refine StillVC.run (StillVC.idx sl23 ty3 (o8.roArr 1 rfl) rfl (by omega) (by omega) ?_)
              refine StillVC.run (StillVC.loadM (o8.roArr 1 rfl) ty3 rfl (by first | assumption | rfl) ?_)
              refine Br.dec (fun hc => absurd hc (by omega)) (fun c138 => ?_)
              refine Ar.i64 (by omega) (by omega) ?_
              refine ⟨rfl, ?_⟩
              · exact ⟨⟨k + 1, by omega, by rw [hsn, c130]; simp, o8⟩, by simp; omega⟩
              · exact ⟨⟨k + 1, by omega, by rw [hsn, c130]; simp, o8⟩, by simp; omega⟩
            · obtain rfl : k = ss.length := by omega
              have hany : ((ss.take ss.length).any fun t => decide (hash t i = leastL i ss)) = true := by
                rw [List.take_length, List.any_eq_true]
                exact ⟨tm, htm, by simp [hxm]⟩
              rw [hany]
              refine StillVC.run (StillVC.lenAn (a0.ext o7.ext) (by assumption) sl22 ?_)
              refine Br.dec (fun hc => absurd hc (by omega)) (fun c141 => ?_)
              refine Br.ff ?_
              refine Ar.i64 (by omega) (by omega) ?_
              refine ⟨rfl, ?_⟩
              exact ⟨⟨i + 1, by omega, rfl, o7⟩, by simp; omega⟩
      · refine StillVC.run (StillVC.lenAn (o6.roArr 1 rfl) (by assumption) sl23 ?_)
        refine Br.dec (fun hc => absurd hc (by omega)) (fun c101 => ?_)
        refine RetVC.one rfl ?_
        exact ⟨rfl, o6.sel [] rfl⟩

end Go.Proofs.YtmehgkkpabbmcaaDoor
