/-
  The statement SketchMatchesReference of chapter 5, walked.
-/
import Derived.Test.YtmehgkkpabbmcaaDoorStructs
import Derived.Test.YtmehgkkpabbmcaaDoorFnHead
import Derived.Test.YtmehgkkpabbmcaaDoorFnLawS
import Derived.Test.YtmehgkkpabbmcaaDoorFnRefUnion
namespace Go.Proofs.YtmehgkkpabbmcaaDoor
open Go

theorem makeR_len (ss : List (List UInt8)) (n : Int) : (makeR ss n).1.length ≤ 1000000000 := by
  unfold makeR
  split
  · rw [makeL_length]; omega
  · simp

theorem unionR_len {a b : List Int} (ha : a.length ≤ 100) (hb : b.length ≤ 100) : (unionR a b).1.length ≤ 1000000000 := by
  unfold unionR
  split
  · unfold unionL
    dsimp only
    split
    · omega
    · split
      · omega
      · simp; omega
  · simp

theorem bandsR_len {a : List Int} {r : Int} (ha : a.length ≤ 100) : (bandsR a r).1.length ≤ 1000000000 := by
  unfold bandsR
  split
  · unfold bandsL
    split
    · simp
    · have := Nat.div_le_self a.length r.toNat
      simp; omega
  · simp

set_option maxRecDepth 100000 in
theorem matches_spec (ss : List (List UInt8)) (a b : List Int) (vt va vb : Value) (n rows seed : Int) (h : Heap) (t0 : Arr h vt (strs ss)) (a0 : Arr h va (ints a)) (b0 : Arr h vb (ints b))
    (ls : ss.length ≤ 140737488351232) (la : a.length ≤ 140737488351232) (lb : b.length ≤ 140737488351232) (r0 : -9223372036854775808 ≤ rows) (r1 : rows ≤ 9223372036854775807) (ht : TabH h) :
    SpecR Tryd.prog 3 [vt, .int .i64 n, va, vb, .int .i64 rows, .int .i64 seed] h fun r h' => r = .bool true ∧ Own h [] h' := by
  refine Spec.enter Tryd.func3 rfl Tryd.ntmps3 (by kernel_rfl) ?_
  have xa : (ints a).length = a.length := by simp
  have xb : (ints b).length = b.length := by simp
  have xs : (strs ss).length = ss.length := by simp
  refine CallVC.ret (head_spec h ht) ?_
  rintro _ h1 ⟨rfl, o1⟩
  refine CallVC.ret (few_spec ss vt _ (t0.ext o1.ext) ls) ?_
  rintro _ h2 ⟨rfl, oc⟩
  have o2 := o1.ext' oc
  clear oc o1
  cases hf : fewB ss with
  | false =>
    refine Br.tt ?_
    refine Br.tt ?_
    refine RetVC.one rfl ?_
    exact ⟨rfl, o2⟩
  | true =>
  by_cases ha : 100 < a.length
  · refine Br.ff ?_
    refine StillVC.run (StillVC.lenAn (a0.ext o2.ext) (by assumption) sl23 ?_)
    refine Br.dec (fun c31 => ?_) (fun hc => absurd (by omega) hc)
    refine Br.tt ?_
    refine RetVC.one rfl ?_
    exact ⟨rfl, o2⟩
  by_cases hb : 100 < b.length
  · refine Br.ff ?_
    refine StillVC.run (StillVC.lenAn (a0.ext o2.ext) (by assumption) sl23 ?_)
    refine Br.dec (fun hc => absurd hc (by omega)) (fun c31 => ?_)
    refine StillVC.run (StillVC.lenAn (b0.ext o2.ext) (by assumption) sl23 ?_)
    refine Br.dec (fun c33 => ?_) (fun hc => absurd (by omega) hc)
    refine RetVC.one rfl ?_
    exact ⟨rfl, o2⟩
  have hS := fewB_short hf
  obtain ⟨hf1, hf2⟩ := fewB_spec hf
  refine Br.ff ?_
  refine StillVC.run (StillVC.lenAn (a0.ext o2.ext) (by assumption) sl23 ?_)
  refine Br.dec (fun hc => absurd hc (by omega)) (fun c41 => ?_)
  refine StillVC.run (StillVC.lenAn (b0.ext o2.ext) (by assumption) sl23 ?_)
  refine Br.dec (fun hc => absurd hc (by omega)) (fun c43 => ?_)
  refine CallVC.ret (make_spec vt ss n _ (t0.ext o2.ext) hS) ?_
  rintro _ h3 ⟨wx, rfl, oc⟩
  have o3 := o2.call oc
  simp only [List.nil_append] at o3
  clear oc o2
  refine CallVC.ret (refMake_spec vt ss n _ (t0.ext o3.ext) hS) ?_
  rintro _ h4 ⟨wy, rfl, oc⟩
  have o4 := o3.call oc
  simp only [List.cons_append, List.nil_append] at o4
  clear oc o3
  refine CallVC.ret (union_spec a b va vb _ (a0.ext o4.ext) (b0.ext o4.ext) (by omega) (by omega)) ?_
  rintro _ h5 ⟨wp, rfl, oc⟩
  have o5 := o4.call oc
  simp only [List.cons_append, List.nil_append] at o5
  clear oc o4
  refine CallVC.ret (refUnion_spec a b va vb _ (a0.ext o5.ext) (b0.ext o5.ext) (by omega) (by omega)) ?_
  rintro _ h6 ⟨wq, rfl, oc⟩
  have o6 := o5.call oc
  simp only [List.cons_append, List.nil_append] at o6
  clear oc o5
  refine CallVC.ret (estimate_spec a b va vb _ (a0.ext o6.ext) (b0.ext o6.ext) (by omega) (by omega)) ?_
  rintro _ h7 ⟨rfl, oc⟩
  have o7 := o6.ext' oc
  clear oc o6
  (refine RunVC.alloc o7 ty31 ?_; intro b90 m90 o90)
  (refine RunVC.storeL o90 4 rfl ty31 rfl (by decide) (And.intro ⟨rfl, rfl⟩ ?_); intro m91 o91)
  refine CallVC.ret (refEstimate_spec a b va vb _ (a0.ext o91.ext) (b0.ext o91.ext) (by omega) (by omega)) ?_
  rintro _ h8 ⟨rfl, oc⟩
  have o8 := o91.ext' oc
  clear oc o7 o90 o91
  (refine RunVC.alloc o8 ty31 ?_; intro b100 m100 o100)
  (refine RunVC.storeL o100 5 rfl ty31 rfl (by decide) (And.intro ⟨rfl, rfl⟩ ?_); intro m101 o101)
  refine CallVC.ret (bands_spec a rows va _ (a0.ext o101.ext) (by omega) r0 r1 (ht.ext o101.ext)) ?_
  rintro _ h9 ⟨wu, rfl, oc⟩
  have o9 := o101.call oc
  simp only [List.cons_append, List.nil_append] at o9
  clear oc o8 o100 o101
  refine CallVC.ret (refBands_spec a rows va _ (a0.ext o9.ext) (by omega) r0 r1) ?_
  rintro _ h10 ⟨wv, rfl, oc⟩
  have o10 := o9.call oc
  simp only [List.cons_append, List.nil_append] at o10
  clear oc o9
  refine LoopVC.intro [12, 30, 94, 95, 96, 97, 98, 99, 100, 101, 102, 103, 104, 105, 106, 107, 108, 109, 110, 111, 112] [30] (fun vs hh => ∃ (i : Nat), i ≤ ss.length ∧ vs = [.int .i64 i] ∧ Own h [ro wx (ints (makeR ss n).1), ro wy (ints (makeR ss n).1), ro wp (ints (unionR a b).1), ro wq (ints (unionR a b).1), box b90 [.int .i64 (estR a b).1.1, .int .i64 (estR a b).1.2] 31, box b100 [.int .i64 (estR a b).1.1, .int .i64 (estR a b).1.2] 31, ro wu (strs (bandsR a rows).1), ro wv (strs (bandsR a rows).1)] hh) (fun vs _ => match vs with | [.int _ i] => ss.length - i.toNat | _ => 0) ?_ ?_
  · exact ⟨0, by omega, rfl, o10⟩
  · clear o10
    rintro vs junk h11 ⟨i, hi, rfl, o11⟩
    by_cases hlt : i < ss.length
    · obtain ⟨t, hg⟩ := getx hlt
      have htl := hf2 t (List.mem_of_getElem? hg)
      refine StillVC.run (StillVC.lenAn (t0.ext o11.ext) (by assumption) sl22 ?_)
      refine Br.dec (fun c131 => ?_) (fun hc => absurd (by omega) hc)
      refine DrawVC.intro [0, 1, 2, 4, 6, 7, 8, 10, 12] [3, 9] [11] [0, 1, 2, 3, 4, 6, 7, 8, 9, 10, 5, 11, 12] mixed (by kernel_rfl) rfl (fun _ _ _ _ h => h) ?_
      refine StillVC.idx sl22 ty9 (t0.ext o11.ext) rfl (by omega) (by omega) ?_
      refine StillVC.loadM (t0.ext o11.ext) ty9 rfl (by first | assumption | rfl) ?_
      refine StillVC.idx sl22 ty9 (t0.ext o11.ext) rfl (by omega) (by omega) ?_
      refine StillVC.loadM (t0.ext o11.ext) ty9 rfl (by first | assumption | rfl) ?_
      refine CallVC.ret (hash_spec t seed _ (by omega)) ?_
      rintro _ h12 ⟨rfl, oc⟩
      have o12 := o11.ext' oc
      refine And.intro oc.ext ?_
      refine CallVC.ret (refHash_spec t seed _ (by omega)) ?_
      rintro _ h13 ⟨rfl, od⟩
      have o13 := o12.ext' od
      clear oc o11 o12
      refine Br.ndec (fun hc => absurd (by first | omega | assumption | decide | exact rfl) hc) (fun c150 => ?_)
      refine Ar.i64 (by omega) (by omega) ?_
      refine ⟨rfl, ?_⟩
      exact ⟨⟨i + 1, by omega, rfl, o13⟩, by simp; omega⟩
    · refine StillVC.run (StillVC.lenAn (t0.ext o11.ext) (by assumption) sl22 ?_)
      refine Br.dec (fun hc => absurd hc (by omega)) (fun c151 => ?_)
      refine Br.tt ?_
      refine Br.dec (fun c152 => ?_) (fun hc => absurd (by omega) hc)
      refine CallVC.ret (refInts_spec _ _ _ _ _ (o11.roArr 0 rfl) (o11.roArr 1 rfl) (makeR_len ss n)) ?_
      rintro _ h12 ⟨rfl, oc⟩
      have o12 := o11.ext' oc
      clear o11
      refine Br.dec (fun c160 => ?_) (fun hc => absurd (by first | assumption | decide | exact rfl | (simp; done)) hc)
      refine Br.dec (fun c161 => ?_) (fun hc => absurd (by omega) hc)
      refine CallVC.ret (refInts_spec _ _ _ _ _ (o12.roArr 2 rfl) (o12.roArr 3 rfl) (unionR_len (by omega) (by omega))) ?_
      rintro _ h13 ⟨rfl, oc⟩
      have o13 := o12.ext' oc
      clear o12
      refine Br.dec (fun c170 => ?_) (fun hc => absurd (by first | assumption | decide | exact rfl | (simp; done)) hc)
      refine Br.dec (fun c171 => ?_) (fun hc => absurd (by omega) hc)
      refine StillVC.run (StillVC.loadON o13 4 rfl ty31 rfl rfl rfl ?_)
      refine StillVC.run (StillVC.loadON o13 5 rfl ty31 rfl rfl rfl ?_)
      refine StillVC.run (StillVC.eqS pl31 rfl rfl rfl rfl ?_)
      refine Br.ttE (by simp; done) ?_
      refine Br.dec (fun c176 => ?_) (fun hc => absurd (by omega) hc)
      refine CallVC.ret (refStrings_spec _ _ _ _ _ (o13.roArr 6 rfl) (o13.roArr 7 rfl) (bandsR_len (by omega))) ?_
      rintro _ h14 ⟨rfl, oc⟩
      have o14 := o13.ext' oc
      clear o13
      refine RetVC.one rfl ?_
      exact ⟨by simp, o14.sel [] rfl⟩

end Go.Proofs.YtmehgkkpabbmcaaDoor
