/-
  Join of chapter 45, and the reference's Split and Join.
-/
import Derived.Test.YtihnelncimkegaaDoorStructs
import Derived.Test.YtihnelncimkegaaDoorFnLib
import Derived.Test.YtihnelncimkegaaDoorFnStr
import Derived.Test.YtihnelncimkegaaDoorFnSplit
import Derived.Test.YtihnelncimkegaaDoorDec
import Derived.Lib.IndexLaws
namespace Go.Proofs.YtihnelncimkegaaDoor
open Go

theorem flatten_chunks (s : List UInt8) : (chunks s).flatten = s := by
  induction hn : s.length using Nat.strongRecOn generalizing s with
  | _ n ih =>
    by_cases h : s.length ≤ 40
    · rw [chunks_le h]; simp
    · rw [chunks_gt (by omega), List.flatten_cons, ih (s.drop 40).length (by simp; omega) (s.drop 40) rfl, List.take_append_drop]

theorem flatten_split (t : List UInt8) : (splitL t).flatten = wholeL t := flatten_chunks _

theorem join_empty (ss : List (List UInt8)) : Lib.join ss [] = ss.flatten := by
  cases ss with
  | nil => simp [Lib.join, List.intercalate]
  | cons x r =>
    rw [Lib.join_cons]
    simp [Lib.joinTail]

theorem index_at {D t : List UInt8} (h : (58 : UInt8) ∉ D) : Lib.indexByte (D ++ 58 :: t) 58 = D.length := by
  have hr := Lib.indexByte_ge (D ++ 58 :: t) 58
  by_cases hn : Lib.indexByte (D ++ 58 :: t) 58 = -1
  · exact absurd (by simp) (Lib.indexByte_none hn D.length)
  · obtain ⟨o, ho⟩ : ∃ o : Nat, Lib.indexByte (D ++ 58 :: t) 58 = o := ⟨(Lib.indexByte (D ++ 58 :: t) 58).toNat, by omega⟩
    obtain ⟨h1, h2⟩ := Lib.indexByte_some ho
    rw [ho]
    rcases Nat.lt_trichotomy o D.length with hlt | heq | hgt
    · rw [List.getElem?_append_left hlt] at h1
      exact absurd (List.mem_of_getElem? h1) h
    · rw [heq]
    · exact absurd (by simp) (h2 D.length hgt)

theorem cut_at {D t : List UInt8} (h : (58 : UInt8) ∉ D) : cutR (D ++ 58 :: t) = (D, t, true) := by
  unfold cutR
  rw [index_at h, if_pos (by omega)]
  simp

theorem cut_ok {l : List UInt8} (h : (cutR l).2.2 = true) : l = (cutR l).1 ++ 58 :: (cutR l).2.1 := by
  unfold cutR at h ⊢
  by_cases h0 : 0 ≤ Lib.indexByte l 58
  · rw [if_pos h0]
    obtain ⟨o, ho⟩ : ∃ o : Nat, Lib.indexByte l 58 = o := ⟨(Lib.indexByte l 58).toNat, by omega⟩
    obtain ⟨h1, -⟩ := Lib.indexByte_some ho
    rw [ho]
    simp only [Int.toNat_natCast]
    obtain ⟨hl, he⟩ := List.getElem?_eq_some_iff.1 h1
    conv => lhs; rw [← List.take_append_drop o l, List.drop_eq_getElem_cons hl, he]
  · rw [if_neg h0] at h; simp at h

theorem whole_eq (t : List UInt8) : wholeL t = Lib.decDigits t.length ++ 58 :: t := by simp [wholeL]

theorem cut_whole (t : List UInt8) : cutR (wholeL t) = (Lib.decDigits t.length, t, true) := by
  rw [whole_eq, cut_at (notMem_dec (by decide) _)]

/-- Join: the text of these bodies. -/
def joinR (bs : List (List UInt8)) : List UInt8 × Int :=
  if (cutR bs.flatten).2.2 = true ∧ splitL (cutR bs.flatten).2.1 = bs then ((cutR bs.flatten).2.1, 0) else ([], 4)

theorem joinR_split (t : List UInt8) : joinR (splitL t) = (t, 0) := by
  unfold joinR
  rw [flatten_split, cut_whole, if_pos ⟨rfl, rfl⟩]

theorem joinR_ok {bs : List (List UInt8)} {t : List UInt8} (h : joinR bs = (t, 0)) : bs = splitL t := by
  unfold joinR at h
  split at h
  · rename_i hh
    simp only [Prod.mk.injEq, and_true] at h
    rw [← h, hh.2]
  · simp at h

/-- A place at which the reference accepts is the place of the first colon. -/
theorem join_at {bs : List (List UInt8)} {i : Nat} (h : bs.flatten[i]? = some 58) (hs : splitL (bs.flatten.drop (i + 1)) = bs) : joinR bs = (bs.flatten.drop (i + 1), 0) := by
  have := joinR_split (bs.flatten.drop (i + 1))
  rwa [hs] at this

theorem join_none {bs : List (List UInt8)} (hl : bs.flatten.length ≤ 1000000000000000) (h : ∀ i, i < bs.flatten.length → i < 20 → ¬ (bs.flatten[i]? = some 58 ∧ splitL (bs.flatten.drop (i + 1)) = bs)) : joinR bs = ([], 4) := by
  unfold joinR
  rw [if_neg]
  rintro ⟨h1, h2⟩
  have h3 := cut_ok h1
  generalize (cutR bs.flatten).1 = D at h3
  generalize (cutR bs.flatten).2.1 = t at h2 h3
  have h4 : bs.flatten = wholeL t := by rw [← h2, flatten_split]
  rw [whole_eq] at h4
  have hlen := congrArg List.length h4
  simp only [List.length_append, List.length_cons] at hlen
  have h5 : (Lib.decDigits t.length).length ≤ 19 := by
    rw [Lib.decDigits_length]
    exact nDigits_le 18 t.length (by omega)
  refine h (Lib.decDigits t.length).length (by omega) (by omega) ⟨by rw [h4]; simp, ?_⟩
  rw [h4]
  simpa using h2

theorem splitL_len2 {t : List UInt8} (hl : t.length ≤ 2199023255552) : (splitL t).length ≤ t.length + 22 := by
  have h1 := chunks_len (wholeL t)
  have hd := decDigits_short t.length (by omega)
  have : (wholeL t).length ≤ 20 + 1 + t.length := by simp [wholeL]; omega
  unfold splitL; omega

theorem refSplit_spec (t : List UInt8) (h : Heap) (hl : t.length ≤ 2199023255552) : SpecR Tryd.prog 21 [.string ⟨⟨t⟩⟩] h fun r h' => Own h [ro r (strs (splitL t))] h' := by
  refine Spec.enter Tryd.func21 rfl Tryd.ntmps21 (by kernel_rfl) ?_
  refine StillVC.run (StillVC.lenS rfl str9 ?_)
  refine CallVC.ret (decimal_spec t.length _ (by omega)) ?_
  rintro _ h1 ⟨rfl, o1⟩
  have hd := decDigits_short t.length (by omega)
  have hw : wholeL t = Lib.decDigits t.length ++ [58] ++ t := rfl
  have hwl : (wholeL t).length ≤ 21 + t.length := by rw [hw]; simp; omega
  have o2 := o1.nilRow 9 1
  have hsl := splitL_len hl
  refine StillVC.run (StillVC.strAdd rfl rfl (by first | omega | (simp; omega)) ?_)
  refine StillVC.run (StillVC.strAdd rfl rfl (by first | omega | (simp; omega)) ?_)
  refine LoopVC.intro [3, 4, 11, 12, 13, 14, 15, 16, 17, 18, 19, 20] [3, 4] (fun vs hh => ∃ (s : List UInt8) (w : Value) (pre : List (List UInt8)), s.length ≤ 21 + t.length ∧ pre ++ chunks s = splitL t ∧ vs = [.string ⟨⟨s⟩⟩, w] ∧ Own h [row w 9 1 pre.length (strs pre)] hh) (fun vs _ => match vs with | [.string ⟨⟨l⟩⟩, _] => l.length | _ => 0) ?_ ?_
  · exact ⟨_, _, [], by simpa [hw] using hwl, rfl, rfl, o2⟩
  · clear o1 o2
    rintro vs junk h2 ⟨s, w, pre, hs, hp, rfl, o2⟩
    have hpl : pre.length ≤ 2199023255600 := by rw [← hp] at hsl; simp at hsl; omega
    by_cases hlt : 40 < s.length
    · have hc : pre ++ [s.take 40] ++ chunks (s.drop 40) = splitL t := by rw [← hp, chunks_gt hlt]; simp
      refine StillVC.run (StillVC.lenS rfl str9 ?_)
      refine Br.dec (fun c31 => ?_) (fun hc => absurd (by omega) hc)
      refine StillVC.run (StillVC.sliceS str9 rfl rfl ⟨_, rfl⟩ (by omega) (by omega) (by omega) ?_)
      (refine RunVC.lit o2 sl22 ty9 rfl rfl (by decide) (And.intro rfl ?_); intro b33 m33 o33)
      (refine RunVC.append o33 0 rfl sl22 ty9 (by decide) (o33.boxArr 1 rfl (by simp) (by simp)).toN (by simp [Value.oneCell']) (by simp only [maxLen]; first | omega | (simp; omega)) (by first | omega | (simp; omega)) ?_; intro v34 m34 o34)
      refine StillVC.run (StillVC.sliceS str9 rfl ⟨_, rfl⟩ rfl (by omega) (by omega) (by omega) ?_)
      refine ⟨rfl, ?_⟩
      have e1 : s.drop 40 = List.drop (Int.toNat 40) (List.take (↑s.length : Int).toNat s) := by simp
      rw [← e1]
      exact ⟨⟨s.drop 40, v34, pre ++ [s.take 40], by simp; omega, hc, rfl, by simpa [strs, pick] using o34.sel [0] rfl⟩, by simp; omega⟩
    · have hc : pre ++ [s] = splitL t := by rw [← hp, chunks_le (by omega)]
      refine StillVC.run (StillVC.lenS rfl str9 ?_)
      refine Br.dec (fun hc => absurd hc (by omega)) (fun c41 => ?_)
      (refine RunVC.lit o2 sl22 ty9 rfl rfl (by decide) (And.intro rfl ?_); intro b42 m42 o42)
      (refine RunVC.append o42 0 rfl sl22 ty9 (by decide) (o42.boxArr 1 rfl (by simp) (by simp)).toN (by simp [Value.oneCell']) (by simp only [maxLen]; first | omega | (simp; omega)) (by first | omega | (simp; omega)) ?_; intro v43 m43 o43)
      refine RetVC.one rfl ?_
      rw [← hc]
      have := (o43.sel [0] rfl).rowRo 0 rfl
      show Own h [ro v43 (strs (pre ++ [s]))] m43
      simpa [strs, pick] using this

theorem flatten_short : ∀ {bs : List (List UInt8)} {n k : Nat}, bs.length ≤ n → (∀ s ∈ bs, s.length ≤ k) → bs.flatten.length ≤ n * k
  | [], _, _, _, _ => by simp
  | s :: bs, n, k, h, hs => by
    obtain ⟨m, rfl⟩ : ∃ m, n = m + 1 := ⟨n - 1, by simp at h; omega⟩
    have := flatten_short (bs := bs) (n := m) (k := k) (by simpa using h) fun s hm => hs s (by simp [hm])
    have h1 := hs s (by simp)
    rw [List.flatten_cons, List.length_append, Nat.succ_mul]
    omega

set_option maxRecDepth 100000 in
theorem join_seal_spec (bs : List (List UInt8)) (v : Value) (h : Heap) (a0 : Arr h v (strs bs)) (hl : bs.length ≤ 1000000) (hs : bs.flatten.length ≤ 100000000) (ht : TabH h) :
    SpecR Tryd.prog 15 [v] h fun r h' => r = .tuple ⟨[.string ⟨⟨(joinR bs).1⟩⟩, .int .i64 (joinR bs).2]⟩ ∧ Own h [] h' := by
  refine Spec.enter Tryd.func15 rfl Tryd.ntmps15 (by kernel_rfl) ?_
  refine CallVC.ret (join_spec bs [] _ _ a0 (by omega) (by rw [join_empty]; omega)) ?_
  rintro _ h1 ⟨rfl, o1⟩
  rw [join_empty]
  refine CallVC.ret (cut_spec bs.flatten _ (by omega)) ?_
  rintro _ h2 ⟨rfl, oc⟩
  have o2 := o1.ext' oc
  clear oc
  have hj : joinR bs = if (cutR bs.flatten).2.2 = true ∧ splitL (cutR bs.flatten).2.1 = bs then ((cutR bs.flatten).2.1, 0) else ([], 4) := rfl
  have hlen : (cutR bs.flatten).2.1.length ≤ bs.flatten.length := by
    unfold cutR; split
    · simp
    · simp
  generalize (cutR bs.flatten).1 = x at *
  generalize (cutR bs.flatten).2.1 = y at *
  generalize (cutR bs.flatten).2.2 = ok at *
  cases ok with
  | false =>
    refine Br.tt ?_
    refine Br.tt ?_
    refine RetVC.two rfl ?_
    rw [hj]
    exact ⟨rfl, o2⟩
  | true =>
    refine Br.ff ?_
    refine CallVC.ret (split_spec y _ (ht.ext o2.ext) (by omega)) ?_
    rintro w h3 oc
    have o3 : Own h [ro w (strs (splitL y))] h3 := o2.call oc
    refine CallVC.ret (equal_spec (splitL y) bs _ _ _ (o3.roArr 0 rfl) (a0.ext o3.ext) (by have := splitL_len2 (t := y) (by omega); omega)) ?_
    rintro _ h4 ⟨rfl, od⟩
    have o4 : Own h [] h4 := (o3.ext' od).sel [] rfl
    by_cases he : splitL y = bs
    · rw [decide_eq_true he]
      refine Br.ff ?_
      refine RetVC.two rfl ?_
      rw [hj, if_pos ⟨rfl, he⟩]
      exact ⟨rfl, o4⟩
    · rw [decide_eq_false he]
      refine Br.tt ?_
      refine RetVC.two rfl ?_
      rw [hj, if_neg (fun hh => he hh.2)]
      exact ⟨rfl, o4⟩

theorem take_flatten_le (bs : List (List UInt8)) (i : Nat) : (bs.take i).flatten.length ≤ bs.flatten.length := by
  conv => rhs; rw [← List.take_append_drop i bs, List.flatten_append, List.length_append]
  omega

set_option maxRecDepth 100000 in
set_option maxHeartbeats 1600000 in
theorem refJoin_spec (bs : List (List UInt8)) (v : Value) (h : Heap) (a0 : Arr h v (strs bs)) (hl : bs.length ≤ 1000000) (hs : bs.flatten.length ≤ 100000000) :
    SpecR Tryd.prog 16 [v] h fun r h' => r = .tuple ⟨[.string ⟨⟨(joinR bs).1⟩⟩, .int .i64 (joinR bs).2]⟩ ∧ Own h [] h' := by
  refine Spec.enter Tryd.func16 rfl Tryd.ntmps16 (by kernel_rfl) ?_
  have o0 := Own.refl h
  have ln : (strs bs).length = bs.length := by simp
  refine LoopVC.intro [4, 5, 7, 8, 9, 10, 11, 12, 13, 14, 15, 16, 17, 18] [4, 5] (fun vs hh => ∃ (i : Nat), i ≤ bs.length ∧ vs = [.string ⟨⟨(bs.take i).flatten⟩⟩, .int .i64 i] ∧ Own h [] hh) (fun vs _ => match vs with | [_, .int _ i] => bs.length - i.toNat | _ => 0) ?_ ?_
  · exact ⟨0, by omega, rfl, o0⟩
  · clear o0
    rintro vs junk h1 ⟨i, hi, rfl, o1⟩
    by_cases hlt : i < bs.length
    · obtain ⟨x, hx⟩ := getx hlt
      have hx2 : (bs.take (i + 1)).flatten = (bs.take i).flatten ++ x := by rw [List.take_add_one, hx]; simp
      have hx3 := take_flatten_le bs (i + 1)
      have hx4 : ((bs.take i).flatten ++ x).length ≤ 100000000 := by rw [← hx2]; omega
      rw [List.length_append] at hx4
      clear hx3
      refine StillVC.run (StillVC.lenAn (a0.ext o1.ext) (by assumption) sl22 ?_)
      refine Br.dec (fun c21 => ?_) (fun hc => absurd (by omega) hc)
      refine StillVC.run (StillVC.idx sl22 ty9 (a0.ext o1.ext) rfl (by omega) (by omega) ?_)
      refine StillVC.run (StillVC.loadM (a0.ext o1.ext) ty9 rfl (by first | assumption | rfl) ?_)
      refine StillVC.run (StillVC.strAdd rfl rfl (by first | omega | (simp; omega)) ?_)
      refine Ar.i64 (by omega) (by omega) ?_
      refine ⟨rfl, ?_⟩
      exact ⟨⟨i + 1, by omega, by rw [hx2]; rfl, o1⟩, by simp; omega⟩
    · obtain rfl : i = bs.length := by omega
      rw [List.take_length]
      generalize hall : bs.flatten = all at *
      refine StillVC.run (StillVC.lenAn (a0.ext o1.ext) (by assumption) sl22 ?_)
      refine Br.dec (fun hc => absurd hc (by omega)) (fun c31 => ?_)
      refine LoopVC.intro [2, 3, 6, 19, 20, 21, 22, 23, 24, 25, 26, 27, 28, 29, 30, 31, 32, 33, 34, 35, 36, 37, 38, 39, 40, 41, 42, 43, 44, 45] [6] (fun vs hh => ∃ (i : Nat), i ≤ all.length ∧ i ≤ 20 ∧ vs = [.int .i64 i] ∧ Own h [] hh ∧ ∀ j, j < i → ¬ (all[j]? = some 58 ∧ splitL (all.drop (j + 1)) = bs)) (fun vs _ => match vs with | [.int _ i] => all.length - i.toNat | _ => 0) ?_ ?_
      · exact ⟨0, by omega, by omega, rfl, o1, by omega⟩
      · clear o1
        rintro vs junk h2 ⟨i, hi, hi2, rfl, o2, hb⟩
        by_cases hlt : i < all.length
        · by_cases hlt2 : i < 20
          · obtain ⟨c, hc⟩ := getx hlt
            by_cases h58 : c = 58
            · subst h58
              have hdr : List.drop ((i : Int) + 1).toNat (List.take (all.length : Int).toNat all) = all.drop (i + 1) := by rw [show ((i : Int) + 1).toNat = i + 1 by omega]; simp
              have hdl : (all.drop (i + 1)).length ≤ all.length := by simp
              refine StillVC.run (StillVC.lenS rfl str9 ?_)
              refine Br.dec (fun c41 => ?_) (fun hc => absurd (by omega) hc)
              refine Br.dec (fun c42 => ?_) (fun hc => absurd (by omega) hc)
              refine StillVC.run (StillVC.strIdx rfl rfl str9 (by omega) (by assumption) ?_)
              refine Br.tt ?_
              refine Ar.i64 (by omega) (by omega) ?_
              refine StillVC.run (StillVC.sliceS str9 rfl ⟨_, rfl⟩ rfl (by omega) (by omega) (by omega) ?_)
              rw [hdr]
              refine CallVC.ret (refSplit_spec (all.drop (i + 1)) _ (by omega)) ?_
              rintro w h3 oc
              have o3 : Own h [ro w (strs (splitL (all.drop (i + 1))))] h3 := o2.call oc
              refine CallVC.ret (same_spec (splitL (all.drop (i + 1))) bs _ _ _ (o3.roArr 0 rfl) (a0.ext o3.ext) (by have := splitL_len2 (t := all.drop (i + 1)) (by omega); omega)) ?_
              rintro _ h4 ⟨rfl, od⟩
              have o4 : Own h [] h4 := (o3.ext' od).sel [] rfl
              by_cases he : splitL (all.drop (i + 1)) = bs
              · rw [decide_eq_true he]
                refine Br.tt ?_
                refine Ar.i64 (by omega) (by omega) ?_
                refine StillVC.run (StillVC.sliceS str9 rfl ⟨_, rfl⟩ rfl (by omega) (by omega) (by omega) ?_)
                refine RetVC.two rfl ?_
                rw [hdr]
                have := join_at (bs := bs) (i := i) (by rw [hall]; exact hc) (by rw [hall]; exact he)
                rw [this, hall]
                exact ⟨rfl, o4⟩
              · rw [decide_eq_false he]
                refine Br.ff ?_
                refine Ar.i64 (by omega) (by omega) ?_
                refine ⟨rfl, ?_⟩
                exact ⟨⟨i + 1, by omega, by omega, rfl, o4, fun j hj => by
                  by_cases hji : j = i
                  · subst hji; exact fun hh => he hh.2
                  · exact hb j (by omega)⟩, by simp; omega⟩
            · have h59 : c.toNat ≠ 58 := fun e => h58 (UInt8.toNat_inj.1 (by simpa using e))
              refine StillVC.run (StillVC.lenS rfl str9 ?_)
              refine Br.dec (fun c61 => ?_) (fun hc => absurd (by omega) hc)
              refine Br.dec (fun c62 => ?_) (fun hc => absurd (by omega) hc)
              refine StillVC.run (StillVC.strIdx rfl rfl str9 (by omega) (by assumption) ?_)
              refine Br.dec (fun hc => absurd hc (by omega)) (fun c64 => ?_)
              refine Br.ff ?_
              refine Ar.i64 (by omega) (by omega) ?_
              refine ⟨rfl, ?_⟩
              exact ⟨⟨i + 1, by omega, by omega, rfl, o2, fun j hj => by
                by_cases hji : j = i
                · subst hji; exact fun hh => h58 (by rw [hc] at hh; simpa using hh.1)
                · exact hb j (by omega)⟩, by simp; omega⟩
          · refine StillVC.run (StillVC.lenS rfl str9 ?_)
            refine Br.dec (fun c71 => ?_) (fun hc => absurd (by omega) hc)
            refine Br.dec (fun hc => absurd hc (by omega)) (fun c72 => ?_)
            refine RetVC.two rfl ?_
            have := join_none (bs := bs) (by rw [hall]; omega) (by rw [hall]; exact fun j _ hj => hb j (by omega))
            rw [this]
            exact ⟨rfl, o2⟩
        · refine StillVC.run (StillVC.lenS rfl str9 ?_)
          refine Br.dec (fun hc => absurd hc (by omega)) (fun c81 => ?_)
          refine Br.ff ?_
          refine RetVC.two rfl ?_
          have := join_none (bs := bs) (by rw [hall]; omega) (by rw [hall]; exact fun j hj _ => hb j (by omega))
          rw [this]
          exact ⟨rfl, o2⟩

end Go.Proofs.YtihnelncimkegaaDoor
