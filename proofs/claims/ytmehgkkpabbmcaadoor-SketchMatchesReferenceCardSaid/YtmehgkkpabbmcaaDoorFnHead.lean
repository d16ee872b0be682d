/-
  The fixed examples of chapter 5.
-/
import Derived.Test.YtmehgkkpabbmcaaDoorStructs
import Derived.Test.YtmehgkkpabbmcaaDoorFnHash
import Derived.Test.YtmehgkkpabbmcaaDoorFnMake
import Derived.Test.YtmehgkkpabbmcaaDoorFnUnion
import Derived.Test.YtmehgkkpabbmcaaDoorFnEst
import Derived.Test.YtmehgkkpabbmcaaDoorFnBands
namespace Go.Proofs.YtmehgkkpabbmcaaDoor
open Go

theorem ex_make : makeR [] 3 = ([-1, -1, -1], 0) := by decide
theorem ex_make2 : makeR [[97]] 65 = ([], 1) := by decide
theorem ex_est : estR [1, 2, 3, 4] [1, 5, 3, 4] = ((3, 4), 0) := by decide
theorem ex_union : unionR [1, -1] [1, 1] = ([], 1) := by decide
theorem ex_union2 : unionR [1, 9] [5, 2] = ([1, 2], 0) := by decide
theorem ex_bands2 : bandsR [7, 8, 9] 2 = ([], 1) := by decide
theorem ex_bands : bandsR [7, 8, 9, 10] 2 = ([[48, 58, 55, 46, 56], [49, 58, 57, 46, 49, 48]], 0) := by
  have h : (okB [7, 8, 9, 10] && decide ((1 : Int) ≤ 2) && decide ((2 : Int) ≤ ([7, 8, 9, 10] : List Int).length) && decide (([7, 8, 9, 10] : List Int).length % (2 : Int).toNat = 0)) = true := by decide
  have small : ∀ n : Nat, n < 10 → Lib.itoa (n : Int) = [UInt8.ofNat (48 + n)] := fun n hn => by
    rw [Lib.itoa, if_neg (by omega)]
    exact Lib.decDigits_one hn
  have e10 : Lib.itoa 10 = [49, 48] := by
    rw [Lib.itoa, if_neg (by decide)]
    exact Lib.decDigits_two (by decide) (by decide)
  unfold bandsR
  rw [h]
  have k0 : keyL [7, 8, 9, 10] 2 0 = [48, 58, 55, 46, 56] := by
    show Lib.itoa (0 : Nat) ++ [58] ++ Lib.join [Lib.itoa (7 : Nat), Lib.itoa (8 : Nat)] [46] = _
    rw [small 0 (by decide), small 7 (by decide), small 8 (by decide)]
    rfl
  have k1 : keyL [7, 8, 9, 10] 2 1 = [49, 58, 57, 46, 49, 48] := by
    show Lib.itoa (1 : Nat) ++ [58] ++ Lib.join [Lib.itoa (9 : Nat), Lib.itoa 10] [46] = _
    rw [small 1 (by decide), small 9 (by decide), e10]
    rfl
  show (([keyL [7, 8, 9, 10] 2 0, keyL [7, 8, 9, 10] 2 1] : List (List UInt8)), (0 : Int)) = _
  rw [k0, k1]
theorem ex_hash0 : hash [] 0 = 11 := by decide
theorem ex_hash1 : hash [] 1 = 48282 := by decide
theorem ex_hash2 : hash [97] 0 = 4730569 := by decide

set_option maxRecDepth 100000 in
theorem head_spec (h : Heap) (ht : TabH h) : SpecR Tryd.prog 10 [] h fun r h' => r = .bool true ∧ Own h [] h' := by
  refine Spec.enter Tryd.func10 rfl Tryd.ntmps10 (by kernel_rfl) ?_
  have o0 := Own.refl h
  refine CallVC.ret (make_spec _ [] 3 _ (Arr.nil _) ⟨by simp, by simp⟩) ?_
  rintro _ h1 ⟨wa, rfl, oc⟩
  rw [ex_make] at oc ⊢
  have o1 := o0.call oc
  simp only [List.nil_append] at o1
  clear oc
  (refine RunVC.lit o1 sl23 ty3 rfl rfl (by decide) (And.intro rfl ?_); intro b20 m20 o20)
  (refine RunVC.lit o20 sl23 ty3 rfl rfl (by decide) (And.intro rfl ?_); intro b21 m21 o21)
  refine CallVC.ret (estimate_spec [1, 2, 3, 4] [1, 5, 3, 4] _ _ _ (o21.boxArr 1 rfl rfl (Nat.le_refl _)) (o21.boxArr 2 rfl rfl (Nat.le_refl _)) (by decide) (by decide)) ?_
  rintro _ h2 ⟨rfl, oc⟩
  rw [ex_est]
  have o2 : Own h [ro wa (ints [-1, -1, -1])] h2 := (o21.ext' oc).sel [0] rfl
  clear o20 o21 oc o1
  (refine RunVC.alloc o2 ty31 ?_; intro b30 m30 o30)
  (refine RunVC.store o30 1 rfl ty31 rfl (by simp) (And.intro ⟨rfl, rfl⟩ ?_); intro m31 o31)
  (refine RunVC.lit o31 sl23 ty3 rfl rfl (by decide) (And.intro rfl ?_); intro b32 m32 o32)
  refine CallVC.ret (bands_spec [7, 8, 9, 10] 2 _ _ (o32.boxArr 2 rfl rfl (Nat.le_refl _)) (by decide) (by decide) (by decide) (ht.ext o32.ext)) ?_
  rintro _ h3 ⟨wb, rfl, oc⟩
  rw [ex_bands] at oc ⊢
  have o3 : Own h [ro wa (ints [-1, -1, -1]), box b30 [.int .i64 3, .int .i64 4] 31, ro wb (strs [[48, 58, 55, 46, 56], [49, 58, 57, 46, 49, 48]])] h3 := (o32.call oc).sel [0, 1, 3] rfl
  clear oc o2 o30 o31 o32
  (refine RunVC.lit o3 sl22 ty9 rfl rfl (by decide) (And.intro rfl ?_); intro b40 m40 o40)
  refine CallVC.ret (make_spec _ [[97]] 65 _ (o40.boxArr 3 rfl rfl (Nat.le_refl _)) ⟨by simp, by simp⟩) ?_
  rintro _ h4 ⟨wc, rfl, oc⟩
  rw [ex_make2] at oc ⊢
  have o4 : Own h [ro wa (ints [-1, -1, -1]), box b30 [.int .i64 3, .int .i64 4] 31, ro wb (strs [[48, 58, 55, 46, 56], [49, 58, 57, 46, 49, 48]])] h4 := (o40.call oc).sel [0, 1, 2] rfl
  clear oc o3 o40
  (refine RunVC.lit o4 sl23 ty3 rfl rfl (by decide) (And.intro rfl ?_); intro b50 m50 o50)
  refine CallVC.ret (bands_spec [7, 8, 9] 2 _ _ (o50.boxArr 3 rfl rfl (Nat.le_refl _)) (by decide) (by decide) (by decide) (ht.ext o50.ext)) ?_
  rintro _ h5 ⟨wd, rfl, oc⟩
  rw [ex_bands2] at oc ⊢
  have o5 : Own h [ro wa (ints [-1, -1, -1]), box b30 [.int .i64 3, .int .i64 4] 31, ro wb (strs [[48, 58, 55, 46, 56], [49, 58, 57, 46, 49, 48]])] h5 := (o50.call oc).sel [0, 1, 2] rfl
  clear oc o4 o50
  (refine RunVC.lit o5 sl23 ty3 rfl rfl (by decide) (And.intro rfl ?_); intro b60 m60 o60)
  (refine RunVC.lit o60 sl23 ty3 rfl rfl (by decide) (And.intro rfl ?_); intro b61 m61 o61)
  refine CallVC.ret (union_spec [1, -1] [1, 1] _ _ _ (o61.boxArr 3 rfl rfl (Nat.le_refl _)) (o61.boxArr 4 rfl rfl (Nat.le_refl _)) (by decide) (by decide)) ?_
  rintro _ h6 ⟨we, rfl, oc⟩
  rw [ex_union] at oc ⊢
  have o6 : Own h [ro wa (ints [-1, -1, -1]), box b30 [.int .i64 3, .int .i64 4] 31, ro wb (strs [[48, 58, 55, 46, 56], [49, 58, 57, 46, 49, 48]])] h6 := (o61.call oc).sel [0, 1, 2] rfl
  clear oc o5 o60 o61
  (refine RunVC.lit o6 sl23 ty3 rfl rfl (by decide) (And.intro rfl ?_); intro b70 m70 o70)
  (refine RunVC.lit o70 sl23 ty3 rfl rfl (by decide) (And.intro rfl ?_); intro b71 m71 o71)
  refine CallVC.ret (union_spec [1, 9] [5, 2] _ _ _ (o71.boxArr 3 rfl rfl (Nat.le_refl _)) (o71.boxArr 4 rfl rfl (Nat.le_refl _)) (by decide) (by decide)) ?_
  rintro _ h7 ⟨wf, rfl, oc⟩
  rw [ex_union2] at oc ⊢
  have o7 : Own h [ro wa (ints [-1, -1, -1]), box b30 [.int .i64 3, .int .i64 4] 31, ro wb (strs [[48, 58, 55, 46, 56], [49, 58, 57, 46, 49, 48]]), ro wf (ints [1, 2])] h7 := (o71.call oc).sel [0, 1, 2, 5] rfl
  clear oc o6 o70 o71
  refine CallVC.ret (hash_spec [] 0 _ (by simp)) ?_
  rintro _ h8 ⟨rfl, oc⟩
  have o8 := o7.ext' oc
  rw [ex_hash0]
  clear oc o7
  refine Br.tt ?_
  refine CallVC.ret (hash_spec [] 1 _ (by simp)) ?_
  rintro _ h9 ⟨rfl, oc⟩
  have o9 := o8.ext' oc
  rw [ex_hash1]
  clear oc o8
  refine Br.tt ?_
  refine CallVC.ret (hash_spec [97] 0 _ (by simp)) ?_
  rintro _ h10 ⟨rfl, oc⟩
  have o10 := o9.ext' oc
  rw [ex_hash2]
  clear oc o9
  refine Br.tt ?_
  refine Br.tt ?_
  (refine RunVC.lit o10 sl23 ty3 rfl rfl (by decide) (And.intro rfl ?_); intro b110 m110 o110)
  refine CallVC.ret (refInts_spec [-1, -1, -1] [-1, -1, -1] _ _ _ (o110.roArr 0 rfl) (o110.boxArr 4 rfl rfl (Nat.le_refl _)) (by decide)) ?_
  rintro _ h11 ⟨rfl, oc⟩
  have o11 : Own h [ro wa (ints [-1, -1, -1]), box b30 [.int .i64 3, .int .i64 4] 31, ro wb (strs [[48, 58, 55, 46, 56], [49, 58, 57, 46, 49, 48]]), ro wf (ints [1, 2])] h11 := (o110.ext' oc).sel [0, 1, 2, 3] rfl
  clear oc o10 o110
  refine Br.tt ?_
  refine Br.tt ?_
  refine StillVC.run (StillVC.loadON o11 1 rfl ty31 rfl rfl rfl ?_)
  refine StillVC.run (StillVC.build st31 rfl ?_)
  refine StillVC.run (StillVC.eqS pl31 rfl rfl rfl rfl ?_)
  refine Br.tt ?_
  refine Br.tt ?_
  (refine RunVC.lit o11 sl22 ty9 rfl rfl (by decide) (And.intro rfl ?_); intro b123 m123 o123)
  refine CallVC.ret (refStrings_spec [[48, 58, 55, 46, 56], [49, 58, 57, 46, 49, 48]] [[48, 58, 55, 46, 56], [49, 58, 57, 46, 49, 48]] _ _ _ (o123.roArr 2 rfl) (o123.boxArr 4 rfl rfl (Nat.le_refl _)) (by decide)) ?_
  rintro _ h12 ⟨rfl, oc⟩
  have o12 : Own h [ro wf (ints [1, 2])] h12 := (o123.ext' oc).sel [3] rfl
  clear oc o11 o123
  refine Br.tt ?_
  refine Br.tt ?_
  refine Br.tt ?_
  refine Br.tt ?_
  refine Br.tt ?_
  (refine RunVC.lit o12 sl23 ty3 rfl rfl (by decide) (And.intro rfl ?_); intro b130 m130 o130)
  refine CallVC.ret (refInts_spec [1, 2] [1, 2] _ _ _ (o130.roArr 0 rfl) (o130.boxArr 1 rfl rfl (Nat.le_refl _)) (by decide)) ?_
  rintro _ h13 ⟨rfl, oc⟩
  have o13 := o130.ext' oc
  clear oc o12 o130
  refine RetVC.one rfl ?_
  exact ⟨rfl, o13.sel [] rfl⟩

end Go.Proofs.YtmehgkkpabbmcaaDoor
