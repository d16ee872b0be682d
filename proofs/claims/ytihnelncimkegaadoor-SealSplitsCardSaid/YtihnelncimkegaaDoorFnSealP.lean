/-
  The statement SealSplits of chapter 45, walked.
-/
import Derived.Test.YtihnelncimkegaaDoorStructs
import Derived.Test.YtihnelncimkegaaDoorFnSealHead
namespace Go.Proofs.YtihnelncimkegaaDoor
open Go

theorem strs_one {ss : List (List UInt8)} : ∀ u ∈ strs ss, u.oneCell' = true := by
  intro u hu
  obtain ⟨x, _, rfl⟩ := List.mem_map.1 hu
  rfl

set_option maxHeartbeats 8000000 in
set_option maxRecDepth 100000 in
theorem splits_spec (t : List UInt8) (n1 n2 : Int) (h : Heap) (hl : t.length ≤ 140737488351232) (a0 : 0 ≤ n1) (a1 : n1 ≤ 255) (b0 : 0 ≤ n2) (b1 : n2 ≤ 255) (ht : TabH h) :
    SpecR Tryd.prog 8 [.string ⟨⟨t⟩⟩, .int .u8 n1, .int .u8 n2] h fun r h' => r = .bool true ∧ Own h [] h' := by
  refine Spec.enter Tryd.func8 rfl Tryd.ntmps8 (by kernel_rfl) ?_
  refine CallVC.ret (head_spec h ht) ?_
  rintro _ h1 ⟨rfl, o1⟩
  by_cases hs : 2000 < t.length
  · refine StillVC.run (StillVC.lenS rfl str9 ?_)
    refine Br.dec (fun c21 => ?_) (fun hc => absurd (by omega) hc)
    refine RetVC.one rfl ?_
    exact ⟨rfl, o1⟩
  refine StillVC.run (StillVC.lenS rfl str9 ?_)
  refine Br.dec (fun hc => absurd hc (by omega)) (fun c31 => ?_)
  refine CallVC.ret (split_spec t _ (ht.ext o1.ext) (by omega)) ?_
  rintro w h2 oc
  have o2 : Own h [ro w (strs (splitL t))] h2 := o1.call oc
  clear oc o1
  have hj := joinR_split t
  have hne : ∀ bs, bs ≠ splitL t → joinR bs ≠ (t, 0) := fun bs => joinR_ne
  have hlen := splitL_len2 (t := t) (by omega)
  obtain ⟨hnil, hsh⟩ := split_shape t
  generalize splitL t = l at *
  have hl0 : 0 < l.length := List.length_pos_iff.2 hnil
  have ln : (strs l).length = l.length := by simp
  have aw := o2.roArr 0 rfl
  refine StillVC.run (StillVC.lenAn aw (by assumption) sl22 ?_)
  refine Br.dec (fun hc => absurd hc (by omega)) (fun c41 => ?_)
  refine LoopVC.intro [6, 9, 33, 34, 35, 36, 37, 38, 39, 40, 41, 42, 43, 44, 45, 46, 47, 48, 49, 50, 51, 52, 53, 54, 55, 56, 57, 58, 59, 60, 61, 62, 63, 64, 65, 66, 67] [9] (fun vs hh => ∃ (i : Nat), i ≤ l.length ∧ vs = [.int .i64 i] ∧ hh = h2) (fun vs _ => match vs with | [.int _ i] => l.length - i.toNat | _ => 0) ?_ ?_
  · exact ⟨0, by omega, rfl, rfl⟩
  · rintro vs junk hh ⟨i, hi, rfl, rfl⟩
    by_cases hlt : i < l.length
    · obtain ⟨x, hx⟩ := getx hlt
      obtain ⟨x1, x2, x3⟩ := hsh i x hx
      have x4 : x.length ≠ 0 := fun e => x2 (List.length_eq_zero_iff.1 e)
      refine StillVC.run (StillVC.lenAn aw (by assumption) sl22 ?_)
      refine Br.dec (fun c51 => ?_) (fun hc => absurd (by omega) hc)
      refine StillVC.run (StillVC.idx sl22 ty9 aw rfl (by omega) (by omega) ?_)
      refine StillVC.run (StillVC.loadM aw ty9 rfl (by first | assumption | rfl) ?_)
      refine StillVC.run (StillVC.lenS rfl str9 ?_)
      refine Br.dec (fun hc => absurd hc (by omega)) (fun c55 => ?_)
      refine StillVC.run (StillVC.idx sl22 ty9 aw rfl (by omega) (by omega) ?_)
      refine StillVC.run (StillVC.loadM aw ty9 rfl (by first | assumption | rfl) ?_)
      refine StillVC.run (StillVC.lenS rfl str9 ?_)
      refine Br.dec (fun hc => absurd hc (by omega)) (fun c59 => ?_)
      refine Ar.i64 (by omega) (by omega) ?_
      refine StillVC.run (StillVC.lenAn aw (by assumption) sl22 ?_)
      refine Br.dec (fun c61 => ?_) (fun c61 => ?_)
      refine StillVC.run (StillVC.idx sl22 ty9 aw rfl (by omega) (by omega) ?_)
      refine StillVC.run (StillVC.loadM aw ty9 rfl (by first | assumption | rfl) ?_)
      refine StillVC.run (StillVC.lenS rfl str9 ?_)
      refine Br.ndec (fun hc => absurd (by first | omega | assumption | decide | exact rfl) hc) (fun c65 => ?_)
      refine Ar.i64 (by omega) (by omega) ?_
      refine ⟨rfl, ?_⟩
      rotate_left
      refine Br.ff ?_
      refine Ar.i64 (by omega) (by omega) ?_
      refine ⟨rfl, ?_⟩
      all_goals exact ⟨⟨i + 1, by omega, rfl, rfl⟩, by simp; omega⟩
    · obtain ⟨i1, hi1⟩ : ∃ i : Nat, n1 % (l.length : Int) = i := ⟨(n1 % (l.length : Int)).toNat, by have := Int.emod_nonneg n1 (show (l.length : Int) ≠ 0 by omega); omega⟩
      have hil : i1 < l.length := by have := Int.emod_lt_of_pos n1 (show 0 < (l.length : Int) by omega); omega
      obtain ⟨k1, hk1⟩ : ∃ i : Nat, n2 % (l.length : Int) = i := ⟨(n2 % (l.length : Int)).toNat, by have := Int.emod_nonneg n2 (show (l.length : Int) ≠ 0 by omega); omega⟩
      have hkl : k1 < l.length := by have := Int.emod_lt_of_pos n2 (show 0 < (l.length : Int) by omega); omega
      have hE := o2.ext
      clear o2
      have o0 := Own.refl hh
      refine StillVC.run (StillVC.lenAn aw (by assumption) sl22 ?_)
      refine Br.dec (fun hc => absurd hc (by omega)) (fun c71 => ?_)
      refine DrawVC.intro [0, 1, 2, 3, 4, 5, 6, 7, 8, 9, 10, 11] [] [] [0, 1, 2, 3, 4, 5, 6, 7, 8, 9, 10, 11] mixed (by kernel_rfl) rfl (fun _ _ _ _ h => h) ?_
      refine StillVC.convI rfl int5 int3 ?_
      refine Ar.i64 (by omega) (by omega) ?_
      refine StillVC.lenAn aw (by assumption) sl22 ?_
      refine StillVC.remE rfl rfl (by omega) (by omega) ?_
      refine StillVC.convI rfl int5 int3 ?_
      refine Ar.i64 (by omega) (by omega) ?_
      refine StillVC.lenAn aw (by assumption) sl22 ?_
      refine StillVC.remE rfl rfl (by omega) (by omega) ?_
      refine DrawVC.intro [1, 2, 3, 5, 6, 7, 8, 10] [] [0, 4, 9] [1, 2, 3, 5, 6, 7, 8, 0, 4, 9, 10] mixed (by kernel_rfl) rfl (fun _ _ _ _ h => h) ?_
      (refine StillVC.sliceH sl22 ty9 aw rfl (by omega) (by first | omega | (simp; omega)) ?_; intro v78 a78)
      refine Ar.i64 (by omega) (by omega) ?_
      (refine StillVC.sliceF sl22 ty9 aw rfl (by omega) (by first | omega | (simp; omega)) ?_; intro v79 a79)
      (refine RunVC.lit o0 sl22 ty9 rfl rfl (by decide) (And.intro rfl ?_); intro b80 m80 o80)
      have o81 : Own hh [row (.slice (some ⟨b80, 0, none⟩) 0 0) 9 1 0 []] m80 := o80.boxRow 0 rfl 1 0 0 rfl (Nat.le_refl _) (by decide)
      clear o80
      have a81 : Arr hh v78 (strs (l.take i1)) := by rw [hi1] at a78; simpa [strs] using a78
      have a82 : Arr hh v79 (strs (l.drop (i1 + 1))) := by rw [hi1, show ((i1 : Int) + 1).toNat = i1 + 1 by omega] at a79; simpa [strs] using a79
      clear a78 a79
      have ht1 : (l.take i1).length ≤ l.length := by simp; omega
      have ht2 : (l.drop (i1 + 1)).length ≤ l.length := by simp
      have a83 := a81.ext o81.ext
      have e1 : (strs (l.take i1)).length = i1 := by simp; omega
      have e2 : (strs (l.drop (i1 + 1))).length = l.length - (i1 + 1) := by simp
      refine RunVC.append o81 0 rfl sl22 ty9 (by decide) a83.toN strs_one (by simp only [maxLen]; omega) (by omega) ?_
      intro v84 m84 o84
      refine RunVC.append o84 0 rfl sl22 ty9 (by decide) (a82.ext o84.ext).toN strs_one (by simp only [maxLen]; omega) (by omega) ?_
      intro v85 m85 o85
      have o86 : Own hh [row v85 9 1 (l.length - 1) (strs (l.take i1 ++ l.drop (i1 + 1)))] m85 := by
        rw [e1, e2, show 0 + i1 + (l.length - (i1 + 1)) = l.length - 1 by omega] at o85
        simpa [strs] using o85
      have aw2 := aw.ext o86.ext
      have hK : True → Own hh [row v85 9 1 (l.length - 1) (strs (l.take i1 ++ l.drop (i1 + 1)))] m85 := fun _ => o86
      clear o84 o85 o86 o81 a81 a82 a83 o0 aw
      have o0 := Own.refl m85
      refine DrawVC.intro [1, 2, 3, 4, 6, 7, 8, 10] [] [0, 5, 9] [1, 2, 3, 4, 6, 7, 8, 0, 5, 9, 10] mixed (by kernel_rfl) rfl (fun _ _ _ _ h => h) ?_
      refine Ar.i64 (by omega) (by omega) ?_
      (refine StillVC.sliceH sl22 ty9 aw2 rfl (by omega) (by first | omega | (simp; omega)) ?_; intro v87 a87)
      (refine StillVC.sliceF sl22 ty9 aw2 rfl (by omega) (by first | omega | (simp; omega)) ?_; intro v88 a88)
      (refine RunVC.lit o0 sl22 ty9 rfl rfl (by decide) (And.intro rfl ?_); intro b89 m89 o89)
      have o90 : Own m85 [row (.slice (some ⟨b89, 0, none⟩) 0 0) 9 1 0 []] m89 := o89.boxRow 0 rfl 1 0 0 rfl (Nat.le_refl _) (by decide)
      have a90 : Arr m89 v87 (strs (l.take (i1 + 1))) := by rw [hi1, show ((i1 : Int) + 1).toNat = i1 + 1 by omega] at a87; simpa [strs] using a87.ext o90.ext
      have a91 : Arr m89 v88 (strs (l.drop i1)) := by rw [hi1] at a88; simpa [strs] using a88.ext o90.ext
      have a91' : Arr m85 v88 (strs (l.drop i1)) := by rw [hi1] at a88; simpa [strs] using a88
      clear o89 a87 a88 o0
      have e3 : (strs (l.take (i1 + 1))).length = i1 + 1 := by simp; omega
      have e4 : (strs (l.drop i1)).length = l.length - i1 := by simp
      refine RunVC.append o90 0 rfl sl22 ty9 (by decide) a90.toN strs_one (by simp only [maxLen]; omega) (by omega) ?_
      intro v92 m92 o92
      refine RunVC.append o92 0 rfl sl22 ty9 (by decide) (a91'.ext o92.ext).toN strs_one (by simp only [maxLen]; omega) (by omega) ?_
      intro v94 m94 o94
      have o95 : Own m85 [row v94 9 1 (l.length + 1) (strs (l.take (i1 + 1) ++ l.drop i1))] m94 := by
        rw [e3, e4, show 0 + (i1 + 1) + (l.length - i1) = l.length + 1 by omega] at o94
        simpa [strs] using o94
      clear o94 o92 o90 a90 a91
      (refine RunVC.lit o95 sl22 ty9 rfl rfl (by decide) (And.intro rfl ?_); intro b96 m96 o96)
      have o97 : Own m85 [row v94 9 1 (l.length + 1) (strs (l.take (i1 + 1) ++ l.drop i1)), row (.slice (some ⟨b96, 0, none⟩) 0 0) 9 1 0 []] m96 := o96.boxRow 1 rfl 1 0 0 rfl (Nat.le_refl _) (by decide)
      clear o96
      refine RunVC.append o97 1 rfl sl22 ty9 (by decide) (aw2.ext o97.ext).toN strs_one (by simp only [maxLen]; omega) (by omega) ?_
      intro v98 m98 o98
      have o99 : Own m85 [row v94 9 1 (l.length + 1) (strs (l.take (i1 + 1) ++ l.drop i1)), row v98 9 1 l.length (strs l)] m98 := by
        simpa [strs] using o98
      clear o97 o98
      obtain ⟨x, hx⟩ := getx hil
      obtain ⟨y, hy⟩ := getx hkl
      have hx2 : l[(n1 % (l.length : Int)).toNat]? = some x := by rw [hi1]; simpa using hx
      have hy2 : l[(n2 % (l.length : Int)).toNat]? = some y := by rw [hk1]; simpa using hy
      refine DrawVC.intro [0, 1, 2, 3, 4, 5, 6, 8, 9, 10, 12, 14] [7, 11] [13, 15] [0, 1, 2, 3, 4, 5, 6, 7, 8, 9, 10, 11, 12, 13, 14, 15] mixed (by kernel_rfl) rfl (fun _ _ _ _ h => h) ?_
      refine StillVC.idx sl22 ty9 (aw2.ext o99.ext) rfl (by omega) (by omega) ?_
      refine StillVC.loadM (aw2.ext o99.ext) ty9 rfl (by first | assumption | rfl) ?_
      refine StillVC.idx sl22 ty9 (aw2.ext o99.ext) rfl (by omega) (by omega) ?_
      refine StillVC.loadM (aw2.ext o99.ext) ty9 rfl (by first | assumption | rfl) ?_
      refine StillVC.idx sl22 ty9 (o99.rowArr 1 rfl) rfl (by omega) (by omega) ?_
      (refine RunVC.storeR o99 1 rfl ty9 rfl rfl (by first | omega | (simp; omega)) (And.intro ⟨rfl, rfl⟩ ?_); intro m106 o106)
      refine StillVC.idx sl22 ty9 (o106.rowArr 1 rfl) rfl (by omega) (by first | omega | (simp; omega)) ?_
      (refine RunVC.storeR o106 1 rfl ty9 rfl rfl (by first | omega | (simp; omega)) (And.intro ⟨rfl, rfl⟩ ?_); intro m108 o108)
      have hturn : ((strs l).set (n1 % (l.length : Int)).toNat (Value.string ⟨⟨y⟩⟩)).set (n2 % (l.length : Int)).toNat (Value.string ⟨⟨x⟩⟩) = strs ((l.set i1 y).set k1 x) := by
        rw [hi1, hk1]; simp [strs, List.map_set]
      rw [hturn] at o108
      have aw3 : Arr m108 w (strs l) := aw2.ext o108.ext
      have o109 : Own hh [row v85 9 1 (l.length - 1) (strs (l.take i1 ++ l.drop (i1 + 1))), row v94 9 1 (l.length + 1) (strs (l.take (i1 + 1) ++ l.drop i1)), row v98 9 1 l.length (strs ((l.set i1 y).set k1 x))] m108 := (hK trivial).call o108
      clear o108 hK hturn
      have hall : ∀ c ∈ l, c.length ≤ 40 := fun c hc => by
        obtain ⟨j, hj, he⟩ := List.mem_iff_getElem.1 hc
        exact (hsh j c (by rw [List.getElem?_eq_getElem hj, he])).1
      have hfl := fun (bs : List (List UInt8)) (h1 : bs.length ≤ 2100) (h2 : ∀ c ∈ bs, c ∈ l) => flatten_short (k := 40) h1 fun c hc => hall c (h2 c hc)
      have f1 := hfl l (by omega) fun _ h => h
      have f2 := hfl (l.take i1 ++ l.drop (i1 + 1)) (by simp; omega) fun c hc => by
        rcases List.mem_append.1 hc with hc | hc
        · exact List.mem_of_mem_take hc
        · exact List.mem_of_mem_drop hc
      have f3 := hfl (l.take (i1 + 1) ++ l.drop i1) (by simp; omega) fun c hc => by
        rcases List.mem_append.1 hc with hc | hc
        · exact List.mem_of_mem_take hc
        · exact List.mem_of_mem_drop hc
      have f4 := hfl ((l.set i1 y).set k1 x) (by simp; omega) fun c hc => by
        rcases List.mem_or_eq_of_mem_set hc with hc | rfl
        · rcases List.mem_or_eq_of_mem_set hc with hc | rfl
          · exact hc
          · exact List.mem_of_getElem? hy
        · exact List.mem_of_getElem? hx
      have n2' : joinR (l.take i1 ++ l.drop (i1 + 1)) ≠ (t, 0) := hne _ fun e => by
        have := congrArg List.length e; simp at this; omega
      have n3' : joinR (l.take (i1 + 1) ++ l.drop i1) ≠ (t, 0) := hne _ fun e => by
        have := congrArg List.length e; simp at this; omega
      have n4' : x = y ∨ joinR ((l.set i1 y).set k1 x) ≠ (t, 0) := by
        by_cases hxy : x = y
        · exact .inl hxy
        · refine .inr (hne _ fun e => ?_)
          by_cases hik : i1 = k1
          · subst hik; rw [hx] at hy; exact hxy (by simpa using hy)
          · have := congrArg (fun l => l[k1]?) e
            simp only [List.getElem?_set_self (show k1 < (l.set i1 y).length by simp; omega), hy] at this
            exact hxy (by simpa using this)
      have TH : ∀ {m : Heap}, Ext hh m → TabH m := fun e => ht.ext (hE.trans e)
      refine CallVC.ret (join_seal_spec l _ _ aw3 (by omega) (by omega) (TH o109.ext)) ?_
      rintro _ g1 ⟨rfl, oj1⟩
      rw [hj]
      have q1 := o109.ext' oj1
      refine CallVC.ret (join_seal_spec (l.take i1 ++ l.drop (i1 + 1)) _ _ (q1.rowArr 0 rfl) (by simp; omega) (by omega) (TH q1.ext)) ?_
      rintro _ g2 ⟨rfl, oj2⟩
      have q2 := q1.ext' oj2
      generalize joinR (l.take i1 ++ l.drop (i1 + 1)) = J2 at *
      obtain ⟨j2, e2⟩ := J2
      refine CallVC.ret (join_seal_spec (l.take (i1 + 1) ++ l.drop i1) _ _ (q2.rowArr 1 rfl) (by simp; omega) (by omega) (TH q2.ext)) ?_
      rintro _ g3 ⟨rfl, oj3⟩
      have q3 := q2.ext' oj3
      generalize joinR (l.take (i1 + 1) ++ l.drop i1) = J3 at *
      obtain ⟨j3, e3⟩ := J3
      refine CallVC.ret (join_seal_spec ((l.set i1 y).set k1 x) _ _ (q3.rowArr 2 rfl) (by simp; omega) (by omega) (TH q3.ext)) ?_
      rintro _ g4 ⟨rfl, oj4⟩
      have q4 := q3.ext' oj4
      generalize joinR ((l.set i1 y).set k1 x) = J4 at *
      obtain ⟨j4, e4⟩ := J4
      have aw4 : Arr g4 w (strs l) := aw3.ext (((oj1.ext.trans oj2.ext).trans oj3.ext).trans oj4.ext)
      clear q1 q2 q3 oj1 oj2 oj3 oj4 o109 aw3 aw2
      by_cases hh2 : e2 = 0
      · have hne2 : ¬ j2 = t := fun e => n2' (by rw [e, hh2])
        by_cases hh3 : e3 = 0
        · have hne3 : ¬ j3 = t := fun e => n3' (by rw [e, hh3])
          by_cases hxy : x = y
          · skip
            refine Br.ndec (fun hc => absurd (by first | omega | assumption | decide | exact rfl) hc) (fun c280 => ?_)
            refine Br.ndec (fun hc => absurd (by first | omega | assumption | decide | exact rfl) hc) (fun c281 => ?_)
            refine Br.dec (fun c282 => ?_) (fun hc => absurd (by omega) hc)
            refine Br.dec (fun hc => absurd hc (by omega)) (fun c283 => ?_)
            refine Br.dec (fun c284 => ?_) (fun hc => absurd (by omega) hc)
            refine Br.dec (fun hc => absurd hc (by omega)) (fun c285 => ?_)
            refine DrawVC.intro [0, 1, 2, 3, 4, 6, 7, 8, 10, 11, 12, 13, 14, 15, 16, 17, 18, 19, 20, 21] [5, 9] [] [0, 1, 2, 3, 4, 5, 6, 7, 8, 9, 10, 11, 12, 13, 14, 15, 16, 17, 18, 19, 20, 21] mixed (by kernel_rfl) rfl (fun _ _ _ _ h => h) ?_
            refine Br.tt ?_
            refine StillVC.idx sl22 ty9 aw4 rfl (by omega) (by omega) ?_
            refine StillVC.loadM aw4 ty9 rfl (by first | assumption | rfl) ?_
            refine StillVC.idx sl22 ty9 aw4 rfl (by omega) (by omega) ?_
            refine StillVC.loadM aw4 ty9 rfl (by first | assumption | rfl) ?_
            refine Br.dec (fun c290 => ?_) (fun hc => absurd (by omega) hc)
            refine RetVC.one rfl ?_
            exact ⟨by first | rfl | simp, Own.of_ext (hE.trans (Own.ext (by assumption)))⟩
          · have n4 := n4'.resolve_left hxy
            by_cases hh4 : e4 = 0
            · have hne4 : ¬ j4 = t := fun e => n4 (by rw [e, hh4])
              refine Br.ndec (fun hc => absurd (by first | omega | assumption | decide | exact rfl) hc) (fun c300 => ?_)
              refine Br.ndec (fun hc => absurd (by first | omega | assumption | decide | exact rfl) hc) (fun c301 => ?_)
              refine Br.dec (fun c302 => ?_) (fun hc => absurd (by omega) hc)
              refine Br.dec (fun hc => absurd hc (by omega)) (fun c303 => ?_)
              refine Br.dec (fun c304 => ?_) (fun hc => absurd (by omega) hc)
              refine Br.dec (fun hc => absurd hc (by omega)) (fun c305 => ?_)
              refine DrawVC.intro [0, 1, 2, 3, 4, 6, 7, 8, 10, 11, 12, 13, 14, 15, 16, 17, 18, 19, 20, 21] [5, 9] [] [0, 1, 2, 3, 4, 5, 6, 7, 8, 9, 10, 11, 12, 13, 14, 15, 16, 17, 18, 19, 20, 21] mixed (by kernel_rfl) rfl (fun _ _ _ _ h => h) ?_
              refine Br.tt ?_
              refine StillVC.idx sl22 ty9 aw4 rfl (by omega) (by omega) ?_
              refine StillVC.loadM aw4 ty9 rfl (by first | assumption | rfl) ?_
              refine StillVC.idx sl22 ty9 aw4 rfl (by omega) (by omega) ?_
              refine StillVC.loadM aw4 ty9 rfl (by first | assumption | rfl) ?_
              refine Br.dec (fun hc => absurd hc (by omega)) (fun c310 => ?_)
              refine Br.ndec (fun hc => absurd (by first | omega | assumption | decide | exact rfl) hc) (fun c311 => ?_)
              refine RetVC.one rfl ?_
              exact ⟨by simp [hne4], Own.of_ext (hE.trans (Own.ext (by assumption)))⟩
            · skip
              refine Br.ndec (fun hc => absurd (by first | omega | assumption | decide | exact rfl) hc) (fun c320 => ?_)
              refine Br.ndec (fun hc => absurd (by first | omega | assumption | decide | exact rfl) hc) (fun c321 => ?_)
              refine Br.dec (fun c322 => ?_) (fun hc => absurd (by omega) hc)
              refine Br.dec (fun hc => absurd hc (by omega)) (fun c323 => ?_)
              refine Br.dec (fun c324 => ?_) (fun hc => absurd (by omega) hc)
              refine Br.dec (fun hc => absurd hc (by omega)) (fun c325 => ?_)
              refine DrawVC.intro [0, 1, 2, 3, 4, 6, 7, 8, 10, 11, 12, 13, 14, 15, 16, 17, 18, 19, 20, 21] [5, 9] [] [0, 1, 2, 3, 4, 5, 6, 7, 8, 9, 10, 11, 12, 13, 14, 15, 16, 17, 18, 19, 20, 21] mixed (by kernel_rfl) rfl (fun _ _ _ _ h => h) ?_
              refine Br.tt ?_
              refine StillVC.idx sl22 ty9 aw4 rfl (by omega) (by omega) ?_
              refine StillVC.loadM aw4 ty9 rfl (by first | assumption | rfl) ?_
              refine StillVC.idx sl22 ty9 aw4 rfl (by omega) (by omega) ?_
              refine StillVC.loadM aw4 ty9 rfl (by first | assumption | rfl) ?_
              refine Br.dec (fun hc => absurd hc (by omega)) (fun c330 => ?_)
              refine Br.ndec (fun c331 => ?_) (fun hc => absurd hc (by first | omega | assumption | decide | exact rfl))
              refine RetVC.one rfl ?_
              exact ⟨by first | rfl | simp, Own.of_ext (hE.trans (Own.ext (by assumption)))⟩
        · skip
          by_cases hxy : x = y
          · skip
            refine Br.ndec (fun hc => absurd (by first | omega | assumption | decide | exact rfl) hc) (fun c340 => ?_)
            refine Br.ndec (fun hc => absurd (by first | omega | assumption | decide | exact rfl) hc) (fun c341 => ?_)
            refine Br.dec (fun c342 => ?_) (fun hc => absurd (by omega) hc)
            refine Br.dec (fun hc => absurd hc (by omega)) (fun c343 => ?_)
            refine Br.dec (fun hc => absurd hc (by omega)) (fun c344 => ?_)
            refine Br.ff ?_
            refine DrawVC.intro [0, 1, 2, 3, 4, 6, 7, 8, 10, 11, 12, 13, 14, 15, 16, 17, 18, 19, 20, 21] [5, 9] [] [0, 1, 2, 3, 4, 5, 6, 7, 8, 9, 10, 11, 12, 13, 14, 15, 16, 17, 18, 19, 20, 21] mixed (by kernel_rfl) rfl (fun _ _ _ _ h => h) ?_
            refine Br.tt ?_
            refine StillVC.idx sl22 ty9 aw4 rfl (by omega) (by omega) ?_
            refine StillVC.loadM aw4 ty9 rfl (by first | assumption | rfl) ?_
            refine StillVC.idx sl22 ty9 aw4 rfl (by omega) (by omega) ?_
            refine StillVC.loadM aw4 ty9 rfl (by first | assumption | rfl) ?_
            refine Br.dec (fun c349 => ?_) (fun hc => absurd (by omega) hc)
            refine RetVC.one rfl ?_
            exact ⟨by first | rfl | simp, Own.of_ext (hE.trans (Own.ext (by assumption)))⟩
          · have n4 := n4'.resolve_left hxy
            by_cases hh4 : e4 = 0
            · have hne4 : ¬ j4 = t := fun e => n4 (by rw [e, hh4])
              refine Br.ndec (fun hc => absurd (by first | omega | assumption | decide | exact rfl) hc) (fun c360 => ?_)
              refine Br.ndec (fun hc => absurd (by first | omega | assumption | decide | exact rfl) hc) (fun c361 => ?_)
              refine Br.dec (fun c362 => ?_) (fun hc => absurd (by omega) hc)
              refine Br.dec (fun hc => absurd hc (by omega)) (fun c363 => ?_)
              refine Br.dec (fun hc => absurd hc (by omega)) (fun c364 => ?_)
              refine Br.ff ?_
              refine DrawVC.intro [0, 1, 2, 3, 4, 6, 7, 8, 10, 11, 12, 13, 14, 15, 16, 17, 18, 19, 20, 21] [5, 9] [] [0, 1, 2, 3, 4, 5, 6, 7, 8, 9, 10, 11, 12, 13, 14, 15, 16, 17, 18, 19, 20, 21] mixed (by kernel_rfl) rfl (fun _ _ _ _ h => h) ?_
              refine Br.tt ?_
              refine StillVC.idx sl22 ty9 aw4 rfl (by omega) (by omega) ?_
              refine StillVC.loadM aw4 ty9 rfl (by first | assumption | rfl) ?_
              refine StillVC.idx sl22 ty9 aw4 rfl (by omega) (by omega) ?_
              refine StillVC.loadM aw4 ty9 rfl (by first | assumption | rfl) ?_
              refine Br.dec (fun hc => absurd hc (by omega)) (fun c369 => ?_)
              refine Br.ndec (fun hc => absurd (by first | omega | assumption | decide | exact rfl) hc) (fun c370 => ?_)
              refine RetVC.one rfl ?_
              exact ⟨by simp [hne4], Own.of_ext (hE.trans (Own.ext (by assumption)))⟩
            · skip
              refine Br.ndec (fun hc => absurd (by first | omega | assumption | decide | exact rfl) hc) (fun c380 => ?_)
              refine Br.ndec (fun hc => absurd (by first | omega | assumption | decide | exact rfl) hc) (fun c381 => ?_)
              refine Br.dec (fun c382 => ?_) (fun hc => absurd (by omega) hc)
              refine Br.dec (fun hc => absurd hc (by omega)) (fun c383 => ?_)
              refine Br.dec (fun hc => absurd hc (by omega)) (fun c384 => ?_)
              refine Br.ff ?_
              refine DrawVC.intro [0, 1, 2, 3, 4, 6, 7, 8, 10, 11, 12, 13, 14, 15, 16, 17, 18, 19, 20, 21] [5, 9] [] [0, 1, 2, 3, 4, 5, 6, 7, 8, 9, 10, 11, 12, 13, 14, 15, 16, 17, 18, 19, 20, 21] mixed (by kernel_rfl) rfl (fun _ _ _ _ h => h) ?_
              refine Br.tt ?_
              refine StillVC.idx sl22 ty9 aw4 rfl (by omega) (by omega) ?_
              refine StillVC.loadM aw4 ty9 rfl (by first | assumption | rfl) ?_
              refine StillVC.idx sl22 ty9 aw4 rfl (by omega) (by omega) ?_
              refine StillVC.loadM aw4 ty9 rfl (by first | assumption | rfl) ?_
              refine Br.dec (fun hc => absurd hc (by omega)) (fun c389 => ?_)
              refine Br.ndec (fun c390 => ?_) (fun hc => absurd hc (by first | omega | assumption | decide | exact rfl))
              refine RetVC.one rfl ?_
              exact ⟨by first | rfl | simp, Own.of_ext (hE.trans (Own.ext (by assumption)))⟩
      · skip
        by_cases hh3 : e3 = 0
        · have hne3 : ¬ j3 = t := fun e => n3' (by rw [e, hh3])
          by_cases hxy : x = y
          · skip
            refine Br.ndec (fun hc => absurd (by first | omega | assumption | decide | exact rfl) hc) (fun c400 => ?_)
            refine Br.ndec (fun hc => absurd (by first | omega | assumption | decide | exact rfl) hc) (fun c401 => ?_)
            refine Br.dec (fun hc => absurd hc (by omega)) (fun c402 => ?_)
            refine Br.dec (fun c403 => ?_) (fun hc => absurd (by omega) hc)
            refine Br.dec (fun hc => absurd hc (by omega)) (fun c404 => ?_)
            refine DrawVC.intro [0, 1, 2, 3, 4, 6, 7, 8, 10, 11, 12, 13, 14, 15, 16, 17, 18, 19, 20, 21] [5, 9] [] [0, 1, 2, 3, 4, 5, 6, 7, 8, 9, 10, 11, 12, 13, 14, 15, 16, 17, 18, 19, 20, 21] mixed (by kernel_rfl) rfl (fun _ _ _ _ h => h) ?_
            refine Br.tt ?_
            refine StillVC.idx sl22 ty9 aw4 rfl (by omega) (by omega) ?_
            refine StillVC.loadM aw4 ty9 rfl (by first | assumption | rfl) ?_
            refine StillVC.idx sl22 ty9 aw4 rfl (by omega) (by omega) ?_
            refine StillVC.loadM aw4 ty9 rfl (by first | assumption | rfl) ?_
            refine Br.dec (fun c409 => ?_) (fun hc => absurd (by omega) hc)
            refine RetVC.one rfl ?_
            exact ⟨by first | rfl | simp, Own.of_ext (hE.trans (Own.ext (by assumption)))⟩
          · have n4 := n4'.resolve_left hxy
            by_cases hh4 : e4 = 0
            · have hne4 : ¬ j4 = t := fun e => n4 (by rw [e, hh4])
              refine Br.ndec (fun hc => absurd (by first | omega | assumption | decide | exact rfl) hc) (fun c420 => ?_)
              refine Br.ndec (fun hc => absurd (by first | omega | assumption | decide | exact rfl) hc) (fun c421 => ?_)
              refine Br.dec (fun hc => absurd hc (by omega)) (fun c422 => ?_)
              refine Br.dec (fun c423 => ?_) (fun hc => absurd (by omega) hc)
              refine Br.dec (fun hc => absurd hc (by omega)) (fun c424 => ?_)
              refine DrawVC.intro [0, 1, 2, 3, 4, 6, 7, 8, 10, 11, 12, 13, 14, 15, 16, 17, 18, 19, 20, 21] [5, 9] [] [0, 1, 2, 3, 4, 5, 6, 7, 8, 9, 10, 11, 12, 13, 14, 15, 16, 17, 18, 19, 20, 21] mixed (by kernel_rfl) rfl (fun _ _ _ _ h => h) ?_
              refine Br.tt ?_
              refine StillVC.idx sl22 ty9 aw4 rfl (by omega) (by omega) ?_
              refine StillVC.loadM aw4 ty9 rfl (by first | assumption | rfl) ?_
              refine StillVC.idx sl22 ty9 aw4 rfl (by omega) (by omega) ?_
              refine StillVC.loadM aw4 ty9 rfl (by first | assumption | rfl) ?_
              refine Br.dec (fun hc => absurd hc (by omega)) (fun c429 => ?_)
              refine Br.ndec (fun hc => absurd (by first | omega | assumption | decide | exact rfl) hc) (fun c430 => ?_)
              refine RetVC.one rfl ?_
              exact ⟨by simp [hne4], Own.of_ext (hE.trans (Own.ext (by assumption)))⟩
            · skip
              refine Br.ndec (fun hc => absurd (by first | omega | assumption | decide | exact rfl) hc) (fun c440 => ?_)
              refine Br.ndec (fun hc => absurd (by first | omega | assumption | decide | exact rfl) hc) (fun c441 => ?_)
              refine Br.dec (fun hc => absurd hc (by omega)) (fun c442 => ?_)
              refine Br.dec (fun c443 => ?_) (fun hc => absurd (by omega) hc)
              refine Br.dec (fun hc => absurd hc (by omega)) (fun c444 => ?_)
              refine DrawVC.intro [0, 1, 2, 3, 4, 6, 7, 8, 10, 11, 12, 13, 14, 15, 16, 17, 18, 19, 20, 21] [5, 9] [] [0, 1, 2, 3, 4, 5, 6, 7, 8, 9, 10, 11, 12, 13, 14, 15, 16, 17, 18, 19, 20, 21] mixed (by kernel_rfl) rfl (fun _ _ _ _ h => h) ?_
              refine Br.tt ?_
              refine StillVC.idx sl22 ty9 aw4 rfl (by omega) (by omega) ?_
              refine StillVC.loadM aw4 ty9 rfl (by first | assumption | rfl) ?_
              refine StillVC.idx sl22 ty9 aw4 rfl (by omega) (by omega) ?_
              refine StillVC.loadM aw4 ty9 rfl (by first | assumption | rfl) ?_
              refine Br.dec (fun hc => absurd hc (by omega)) (fun c449 => ?_)
              refine Br.ndec (fun c450 => ?_) (fun hc => absurd hc (by first | omega | assumption | decide | exact rfl))
              refine RetVC.one rfl ?_
              exact ⟨by first | rfl | simp, Own.of_ext (hE.trans (Own.ext (by assumption)))⟩
        · skip
          by_cases hxy : x = y
          · skip
            refine Br.ndec (fun hc => absurd (by first | omega | assumption | decide | exact rfl) hc) (fun c460 => ?_)
            refine Br.ndec (fun hc => absurd (by first | omega | assumption | decide | exact rfl) hc) (fun c461 => ?_)
            refine Br.dec (fun hc => absurd hc (by omega)) (fun c462 => ?_)
            refine Br.dec (fun hc => absurd hc (by omega)) (fun c463 => ?_)
            refine Br.ff ?_
            refine DrawVC.intro [0, 1, 2, 3, 4, 6, 7, 8, 10, 11, 12, 13, 14, 15, 16, 17, 18, 19, 20, 21] [5, 9] [] [0, 1, 2, 3, 4, 5, 6, 7, 8, 9, 10, 11, 12, 13, 14, 15, 16, 17, 18, 19, 20, 21] mixed (by kernel_rfl) rfl (fun _ _ _ _ h => h) ?_
            refine Br.tt ?_
            refine StillVC.idx sl22 ty9 aw4 rfl (by omega) (by omega) ?_
            refine StillVC.loadM aw4 ty9 rfl (by first | assumption | rfl) ?_
            refine StillVC.idx sl22 ty9 aw4 rfl (by omega) (by omega) ?_
            refine StillVC.loadM aw4 ty9 rfl (by first | assumption | rfl) ?_
            refine Br.dec (fun c468 => ?_) (fun hc => absurd (by omega) hc)
            refine RetVC.one rfl ?_
            exact ⟨by first | rfl | simp, Own.of_ext (hE.trans (Own.ext (by assumption)))⟩
          · have n4 := n4'.resolve_left hxy
            by_cases hh4 : e4 = 0
            · have hne4 : ¬ j4 = t := fun e => n4 (by rw [e, hh4])
              refine Br.ndec (fun hc => absurd (by first | omega | assumption | decide | exact rfl) hc) (fun c480 => ?_)
              refine Br.ndec (fun hc => absurd (by first | omega | assumption | decide | exact rfl) hc) (fun c481 => ?_)
              refine Br.dec (fun hc => absurd hc (by omega)) (fun c482 => ?_)
              refine Br.dec (fun hc => absurd hc (by omega)) (fun c483 => ?_)
              refine Br.ff ?_
              refine DrawVC.intro [0, 1, 2, 3, 4, 6, 7, 8, 10, 11, 12, 13, 14, 15, 16, 17, 18, 19, 20, 21] [5, 9] [] [0, 1, 2, 3, 4, 5, 6, 7, 8, 9, 10, 11, 12, 13, 14, 15, 16, 17, 18, 19, 20, 21] mixed (by kernel_rfl) rfl (fun _ _ _ _ h => h) ?_
              refine Br.tt ?_
              refine StillVC.idx sl22 ty9 aw4 rfl (by omega) (by omega) ?_
              refine StillVC.loadM aw4 ty9 rfl (by first | assumption | rfl) ?_
              refine StillVC.idx sl22 ty9 aw4 rfl (by omega) (by omega) ?_
              refine StillVC.loadM aw4 ty9 rfl (by first | assumption | rfl) ?_
              refine Br.dec (fun hc => absurd hc (by omega)) (fun c488 => ?_)
              refine Br.ndec (fun hc => absurd (by first | omega | assumption | decide | exact rfl) hc) (fun c489 => ?_)
              refine RetVC.one rfl ?_
              exact ⟨by simp [hne4], Own.of_ext (hE.trans (Own.ext (by assumption)))⟩
            · skip
              refine Br.ndec (fun hc => absurd (by first | omega | assumption | decide | exact rfl) hc) (fun c500 => ?_)
              refine Br.ndec (fun hc => absurd (by first | omega | assumption | decide | exact rfl) hc) (fun c501 => ?_)
              refine Br.dec (fun hc => absurd hc (by omega)) (fun c502 => ?_)
              refine Br.dec (fun hc => absurd hc (by omega)) (fun c503 => ?_)
              refine Br.ff ?_
              refine DrawVC.intro [0, 1, 2, 3, 4, 6, 7, 8, 10, 11, 12, 13, 14, 15, 16, 17, 18, 19, 20, 21] [5, 9] [] [0, 1, 2, 3, 4, 5, 6, 7, 8, 9, 10, 11, 12, 13, 14, 15, 16, 17, 18, 19, 20, 21] mixed (by kernel_rfl) rfl (fun _ _ _ _ h => h) ?_
              refine Br.tt ?_
              refine StillVC.idx sl22 ty9 aw4 rfl (by omega) (by omega) ?_
              refine StillVC.loadM aw4 ty9 rfl (by first | assumption | rfl) ?_
              refine StillVC.idx sl22 ty9 aw4 rfl (by omega) (by omega) ?_
              refine StillVC.loadM aw4 ty9 rfl (by first | assumption | rfl) ?_
              refine Br.dec (fun hc => absurd hc (by omega)) (fun c508 => ?_)
              refine Br.ndec (fun c509 => ?_) (fun hc => absurd hc (by first | omega | assumption | decide | exact rfl))
              refine RetVC.one rfl ?_
              exact ⟨by first | rfl | simp, Own.of_ext (hE.trans (Own.ext (by assumption)))⟩

end Go.Proofs.YtihnelncimkegaaDoor
