/-
  The statement SketchUnions of chapter 5, walked.
-/
import Derived.Test.YtmehgkkpabbmcaaDoorStructs
import Derived.Test.YtmehgkkpabbmcaaDoorFnHead
import Derived.Test.YtmehgkkpabbmcaaDoorFnLeast
import Derived.Test.YtmehgkkpabbmcaaDoorFnLawS
namespace Go.Proofs.YtmehgkkpabbmcaaDoor
open Go

set_option maxRecDepth 100000 in
theorem unions_spec (sa sb sc : List (List UInt8)) (va vb vc : Value) (raw : Int) (h : Heap) (a0 : Arr h va (strs sa)) (b0 : Arr h vb (strs sb)) (c0 : Arr h vc (strs sc))
    (la : sa.length ≤ 140737488351232) (lb : sb.length ≤ 140737488351232) (lc : sc.length ≤ 140737488351232) (r0 : 0 ≤ raw) (r1 : raw ≤ 255) (ht : TabH h) :
    SpecR Tryd.prog 5 [va, vb, vc, .int .u8 raw] h fun r h' => r = .bool true ∧ Own h [] h' := by
  refine Spec.enter Tryd.func5 rfl Tryd.ntmps5 (by kernel_rfl) ?_
  refine CallVC.ret (head_spec h ht) ?_
  rintro _ h1 ⟨rfl, o1⟩
  refine CallVC.ret (few_spec sa va _ (a0.ext o1.ext) la) ?_
  rintro _ h2 ⟨rfl, oc⟩
  have o2 := o1.ext' oc
  clear oc o1
  cases fa : fewB sa with
  | false =>
    refine Br.tt ?_
    refine Br.tt ?_
    refine RetVC.one rfl ?_
    exact ⟨rfl, o2⟩
  | true =>
  refine Br.ff ?_
  refine CallVC.ret (few_spec sb vb _ (b0.ext o2.ext) lb) ?_
  rintro _ h3 ⟨rfl, oc⟩
  have o3 := o2.ext' oc
  clear oc o2
  cases fb : fewB sb with
  | false =>
    refine Br.tt ?_
    refine Br.tt ?_
    refine RetVC.one rfl ?_
    exact ⟨rfl, o3⟩
  | true =>
  refine Br.ff ?_
  refine CallVC.ret (few_spec sc vc _ (c0.ext o3.ext) lc) ?_
  rintro _ h4 ⟨rfl, oc⟩
  have o4 := o3.ext' oc
  clear oc o3
  cases fc : fewB sc with
  | false =>
    refine Br.tt ?_
    refine RetVC.one rfl ?_
    exact ⟨rfl, o4⟩
  | true =>
  have ka := fewB_short fa
  have kb := fewB_short fb
  have kc := fewB_short fc
  refine Br.ff ?_
  refine StillVC.run (StillVC.convI rfl int5 int3 ?_)
  refine Ar.i64 (by omega) (by omega) ?_
  refine StillVC.run (StillVC.remE rfl rfl (by omega) (by omega) ?_)
  refine Ar.i64 (by omega) (by omega) ?_
  obtain ⟨ha1, ha2⟩ := fewB_spec fa
  obtain ⟨hb1, hb2⟩ := fewB_spec fb
  obtain ⟨hc1, hc2⟩ := fewB_spec fc
  have n1 : 1 ≤ 1 + raw % 64 ∧ 1 + raw % 64 ≤ 64 := by omega
  generalize hn : 1 + raw % 64 = n at *
  have hm : ∀ l, makeR l n = (makeL l n.toNat, 0) := fun l => by simp [makeR, n1]
  have hu : ∀ l l', unionR (makeL l n.toNat) (makeL l' n.toNat) = (makeL (l ++ l') n.toNat, 0) := fun l l' => union_make l l' (by omega) (by omega)
  have lm : ∀ l, (makeL l n.toNat).length ≤ 1000000000 := fun l => by rw [makeL_length]; omega
  refine CallVC.ret (make_spec va sa n _ (a0.ext o4.ext) ka) ?_
  rintro _ h5 ⟨wa, rfl, oc⟩
  rw [hm] at oc ⊢
  have o5 := o4.call oc
  simp only [List.nil_append] at o5
  clear oc o4
  refine CallVC.ret (make_spec vb sb n _ (b0.ext o5.ext) kb) ?_
  rintro _ h6 ⟨wb, rfl, oc⟩
  rw [hm] at oc ⊢
  have o6 : Own h [ro wa (ints (makeL sa n.toNat)), ro wb (ints (makeL sb n.toNat))] h6 := o5.call oc
  clear oc o5
  refine CallVC.ret (make_spec vc sc n _ (c0.ext o6.ext) kc) ?_
  rintro _ h7 ⟨wc, rfl, oc⟩
  rw [hm] at oc ⊢
  have o7 : Own h [ro wa (ints (makeL sa n.toNat)), ro wb (ints (makeL sb n.toNat)), ro wc (ints (makeL sc n.toNat))] h7 := o6.call oc
  clear oc o6
  refine CallVC.ret (make_spec _ [] n _ (Arr.nil _) ⟨by simp, by simp⟩) ?_
  rintro _ h8 ⟨wn, rfl, oc⟩
  rw [hm] at oc ⊢
  have o8 : Own h [ro wa (ints (makeL sa n.toNat)), ro wb (ints (makeL sb n.toNat)), ro wc (ints (makeL sc n.toNat)), ro wn (ints (makeL [] n.toNat))] h8 := o7.call oc
  clear oc o7
  (refine RunVC.lit o8 sl22 ty9 rfl rfl (by decide) (And.intro rfl ?_); intro b100 m100 o100)
  have o9 := o100.boxRow 4 rfl 1 0 0 rfl (Nat.le_refl _) (by decide)
  clear o100
  refine RunVC.append o9 4 rfl sl22 ty9 (by decide) (a0.ext o9.ext).toN (by simp [Value.oneCell']) (by simp [maxLen]; omega) (by simp; omega) ?_
  intro w10 m10 o10
  clear o9
  (refine RunVC.append o10 4 rfl sl22 ty9 (by decide) (b0.ext o10.ext).toN (by simp [Value.oneCell']) (by simp [maxLen]; omega) (by simp; omega) ?_; intro v110 m110 o110)
  have e2 : strs (sa ++ sb) = List.take (0 * 1) [] ++ strs sa ++ strs sb := by simp
  have kab : Short (sa ++ sb) := ⟨by simp; omega, fun t ht => (List.mem_append.1 ht).elim (ka.2 t) (kb.2 t)⟩
  refine CallVC.ret (make_spec v110 (sa ++ sb) n _ (by rw [e2]; exact o110.rowArr 4 rfl) kab) ?_
  rintro _ h9 ⟨wd, rfl, oc⟩
  rw [hm] at oc ⊢
  have o9 : Own h [ro wa (ints (makeL sa n.toNat)), ro wb (ints (makeL sb n.toNat)), ro wc (ints (makeL sc n.toNat)), ro wn (ints (makeL [] n.toNat)), ro wd (ints (makeL (sa ++ sb) n.toNat))] h9 := (o110.call oc).sel [0, 1, 2, 3, 5] rfl
  clear oc o10 o110
  refine CallVC.ret (union_spec _ _ _ _ _ (o9.roArr 0 rfl) (o9.roArr 1 rfl) (lm _) (lm _)) ?_
  rintro _ h10 ⟨wu, rfl, oc⟩
  rw [hu] at oc ⊢
  have o10 : Own h [ro wa (ints (makeL sa n.toNat)), ro wb (ints (makeL sb n.toNat)), ro wc (ints (makeL sc n.toNat)), ro wn (ints (makeL [] n.toNat)), ro wd (ints (makeL (sa ++ sb) n.toNat)), ro wu (ints (makeL (sa ++ sb) n.toNat))] h10 := o9.call oc
  clear oc o9
  refine CallVC.ret (union_spec _ _ _ _ _ (o10.roArr 1 rfl) (o10.roArr 0 rfl) (lm _) (lm _)) ?_
  rintro _ h11 ⟨wv, rfl, oc⟩
  rw [hu] at oc ⊢
  have o11 : Own h [ro wa (ints (makeL sa n.toNat)), ro wb (ints (makeL sb n.toNat)), ro wc (ints (makeL sc n.toNat)), ro wn (ints (makeL [] n.toNat)), ro wd (ints (makeL (sa ++ sb) n.toNat)), ro wu (ints (makeL (sa ++ sb) n.toNat)), ro wv (ints (makeL (sb ++ sa) n.toNat))] h11 := o10.call oc
  clear oc o10
  refine CallVC.ret (union_spec _ _ _ _ _ (o11.roArr 5 rfl) (o11.roArr 2 rfl) (lm _) (lm _)) ?_
  rintro _ h12 ⟨ww, rfl, oc⟩
  rw [hu] at oc ⊢
  have o12 : Own h [ro wa (ints (makeL sa n.toNat)), ro wb (ints (makeL sb n.toNat)), ro wc (ints (makeL sc n.toNat)), ro wn (ints (makeL [] n.toNat)), ro wd (ints (makeL (sa ++ sb) n.toNat)), ro wu (ints (makeL (sa ++ sb) n.toNat)), ro wv (ints (makeL (sb ++ sa) n.toNat)), ro ww (ints (makeL (sa ++ sb ++ sc) n.toNat))] h12 := o11.call oc
  clear oc o11
  refine CallVC.ret (union_spec _ _ _ _ _ (o12.roArr 1 rfl) (o12.roArr 2 rfl) (lm _) (lm _)) ?_
  rintro _ h13 ⟨wx, rfl, oc⟩
  rw [hu] at oc ⊢
  have o13 : Own h [ro wa (ints (makeL sa n.toNat)), ro wn (ints (makeL [] n.toNat)), ro wd (ints (makeL (sa ++ sb) n.toNat)), ro wu (ints (makeL (sa ++ sb) n.toNat)), ro wv (ints (makeL (sb ++ sa) n.toNat)), ro ww (ints (makeL (sa ++ sb ++ sc) n.toNat)), ro wx (ints (makeL (sb ++ sc) n.toNat))] h13 := (o12.call oc).sel [0, 3, 4, 5, 6, 7, 8] rfl
  clear oc o12
  refine CallVC.ret (union_spec _ _ _ _ _ (o13.roArr 0 rfl) (o13.roArr 6 rfl) (lm _) (lm _)) ?_
  rintro _ h14 ⟨wy, rfl, oc⟩
  rw [hu] at oc ⊢
  have o14 : Own h [ro wa (ints (makeL sa n.toNat)), ro wn (ints (makeL [] n.toNat)), ro wd (ints (makeL (sa ++ sb) n.toNat)), ro wu (ints (makeL (sa ++ sb) n.toNat)), ro wv (ints (makeL (sb ++ sa) n.toNat)), ro ww (ints (makeL (sa ++ sb ++ sc) n.toNat)), ro wy (ints (makeL (sa ++ (sb ++ sc)) n.toNat))] h14 := (o13.call oc).sel [0, 1, 2, 3, 4, 5, 7] rfl
  clear oc o13
  refine CallVC.ret (union_spec _ _ _ _ _ (o14.roArr 0 rfl) (o14.roArr 0 rfl) (lm _) (lm _)) ?_
  rintro _ h15 ⟨wz, rfl, oc⟩
  rw [hu] at oc ⊢
  have o15 := o14.call oc
  simp only [List.cons_append, List.nil_append] at o15
  clear oc o14
  refine CallVC.ret (union_spec _ _ _ _ _ (o15.roArr 1 rfl) (o15.roArr 0 rfl) (lm _) (lm _)) ?_
  rintro _ h16 ⟨ws, rfl, oc⟩
  rw [hu] at oc ⊢
  have o16 : Own h [ro wa (ints (makeL sa n.toNat)), ro wd (ints (makeL (sa ++ sb) n.toNat)), ro wu (ints (makeL (sa ++ sb) n.toNat)), ro wv (ints (makeL (sb ++ sa) n.toNat)), ro ww (ints (makeL (sa ++ sb ++ sc) n.toNat)), ro wy (ints (makeL (sa ++ (sb ++ sc)) n.toNat)), ro wz (ints (makeL (sa ++ sa) n.toNat)), ro ws (ints (makeL ([] ++ sa) n.toNat))] h16 := (o15.call oc).sel [0, 2, 3, 4, 5, 6, 7, 8] rfl
  clear oc o15
  have e3 : makeL (sb ++ sa) n.toNat = makeL (sa ++ sb) n.toNat := makeL_eq _ fun t => by simp [or_comm]
  have e4 : makeL (sa ++ sa) n.toNat = makeL sa n.toNat := makeL_eq _ fun t => by simp
  rw [e3, e4, List.append_assoc, List.nil_append] at o16
  refine Br.ndec (fun hc => absurd (by first | omega | assumption | decide) hc) (fun c190 => ?_)
  refine Br.ndec (fun hc => absurd (by first | omega | assumption | decide) hc) (fun c191 => ?_)
  refine Br.ndec (fun hc => absurd (by first | omega | assumption | decide) hc) (fun c192 => ?_)
  refine Br.ndec (fun hc => absurd (by first | omega | assumption | decide) hc) (fun c193 => ?_)
  refine Br.ndec (fun hc => absurd (by first | omega | assumption | decide) hc) (fun c194 => ?_)
  refine Br.ndec (fun hc => absurd (by first | omega | assumption | decide) hc) (fun c195 => ?_)
  refine Br.ndec (fun hc => absurd (by first | omega | assumption | decide) hc) (fun c196 => ?_)
  refine Br.ndec (fun hc => absurd (by first | omega | assumption | decide) hc) (fun c197 => ?_)
  refine Br.tt ?_
  refine CallVC.ret (refInts_spec _ _ _ _ _ (o16.roArr 2 rfl) (o16.roArr 1 rfl) (lm _)) ?_
  rintro _ h17 ⟨rfl, oc⟩
  have o17 := o16.ext' oc
  clear o16
  refine Br.dec (fun c200 => ?_) (fun hc => absurd (by first | assumption | decide | (simp; done)) hc)
  refine CallVC.ret (refInts_spec _ _ _ _ _ (o17.roArr 2 rfl) (o17.roArr 3 rfl) (lm _)) ?_
  rintro _ h18 ⟨rfl, oc⟩
  have o18 := o17.ext' oc
  clear o17
  refine Br.dec (fun c210 => ?_) (fun hc => absurd (by omega) hc)
  refine CallVC.ret (refInts_spec _ _ _ _ _ (o18.roArr 4 rfl) (o18.roArr 5 rfl) (lm _)) ?_
  rintro _ h19 ⟨rfl, oc⟩
  have o19 := o18.ext' oc
  clear o18
  refine Br.dec (fun c220 => ?_) (fun hc => absurd (by first | assumption | decide | (simp; done)) hc)
  refine CallVC.ret (refInts_spec _ _ _ _ _ (o19.roArr 6 rfl) (o19.roArr 0 rfl) (lm _)) ?_
  rintro _ h20 ⟨rfl, oc⟩
  have o20 := o19.ext' oc
  clear o19
  refine Br.dec (fun c230 => ?_) (fun hc => absurd (by first | assumption | decide | (simp; done)) hc)
  refine CallVC.ret (refInts_spec _ _ _ _ _ (o20.roArr 7 rfl) (o20.roArr 0 rfl) (lm _)) ?_
  rintro _ h21 ⟨rfl, oc⟩
  have o21 := o20.ext' oc
  clear o20
  refine RetVC.one rfl ?_
  exact ⟨by simp, o21.sel [] rfl⟩

end Go.Proofs.YtmehgkkpabbmcaaDoor
