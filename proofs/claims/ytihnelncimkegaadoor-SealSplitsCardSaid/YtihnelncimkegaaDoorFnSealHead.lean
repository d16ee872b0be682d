/-
  The fixed examples of chapter 45.
-/
import Derived.Test.YtihnelncimkegaaDoorStructs
import Derived.Test.YtihnelncimkegaaDoorFnSealLaw
namespace Go.Proofs.YtihnelncimkegaaDoor
open Go

theorem ex_put : putR 3 5 [120] = (putL 3 5 [120], 0) := by simp [putR, placedB]
theorem ex_put_len : (putL 3 5 [120]).length = 64 := putL_len (by decide)
theorem ex_get : getR 3 5 (putL 3 5 [120]) = ([120], 0) := by
  have := get_put (e := 3) (p := 5) (o := 3) (a := 5) (b := [120]) (by decide) (by decide)
  simpa [placedB] using this
theorem ex_get4 : getR 4 5 (putL 3 5 [120]) = ([], 21) := by
  have := get_put (e := 3) (p := 5) (o := 4) (a := 5) (b := [120]) (by decide) (by decide)
  simpa [placedB] using this
theorem ex_short : getR 3 5 [115, 104, 111, 114, 116] = ([], 20) := by
  have : okS [115, 104, 111, 114, 116] = false := by simp [okS]
  simp [getR, placedB, this]
theorem ex_bad : putR 0 4000 [] = ([], 1) := by simp [putR, placedB]
theorem ex_split : splitL [97, 98, 99] = [[51, 58, 97, 98, 99]] := by
  have e : wholeL [97, 98, 99] = [51, 58, 97, 98, 99] := by
    show Lib.decDigits 3 ++ [58] ++ [97, 98, 99] = _
    rw [Lib.decDigits_one (by decide)]; rfl
  rw [splitL, e, chunks_le (by decide)]
theorem ex_join : joinR [[51, 58, 97, 98, 99]] = ([97, 98, 99], 0) := by rw [← ex_split, joinR_split]
theorem ex_join4 : joinR [[52, 58, 97, 98, 99]] = ([], 4) := by
  have e : cutR ([[52, 58, 97, 98, 99]] : List (List UInt8)).flatten = ([52], [97, 98, 99], true) := cut_at (D := [52]) (t := [97, 98, 99]) (by decide)
  unfold joinR
  rw [e]
  simp [ex_split]
theorem ex_sum0 : sumL [] = 0 := rfl
theorem ex_sum1 : sumL [97] = 98 := by decide
theorem ex_sum2 : sumL [97, 98] = 25285 := by decide

set_option maxRecDepth 100000 in
theorem head_spec (h : Heap) (ht : TabH h) : SpecR Tryd.prog 9 [] h fun r h' => r = .bool true ∧ Own h [] h' := by
  refine Spec.enter Tryd.func9 rfl Tryd.ntmps9 (by kernel_rfl) ?_
  have o0 := Own.refl h
  refine CallVC.ret (put_spec 3 5 [120] _ (by simp)) ?_
  rintro _ h1 ⟨rfl, oc⟩
  have o1 := o0.ext' oc
  clear oc o0
  rw [show (putR 3 5 [120]).1 = putL 3 5 [120] by rw [ex_put], show (putR 3 5 [120]).2 = 0 by rw [ex_put]]
  have hS := ex_put_len
  have hG := ex_get
  have hG4 := ex_get4
  generalize putL 3 5 [120] = S at *
  refine CallVC.ret (get_spec 3 5 S _ (by omega)) ?_
  rintro _ h2 ⟨rfl, oc⟩
  have o2 := o1.ext' oc
  clear oc o1
  rw [hG]
  refine CallVC.ret (get_spec 4 5 S _ (by omega)) ?_
  rintro _ h3 ⟨rfl, oc⟩
  have o3 := o2.ext' oc
  clear oc o2
  rw [hG4]
  refine CallVC.ret (get_spec 3 5 [115, 104, 111, 114, 116] _ (by simp)) ?_
  rintro _ h4 ⟨rfl, oc⟩
  have o4 := o3.ext' oc
  clear oc o3
  rw [ex_short]
  refine CallVC.ret (put_spec 0 4000 [] _ (by simp)) ?_
  rintro _ h5 ⟨rfl, oc⟩
  have o5 := o4.ext' oc
  clear oc o4
  rw [ex_bad]
  (refine RunVC.lit o5 sl22 ty9 rfl rfl (by decide) (And.intro rfl ?_); intro b60 m60 o60)
  refine CallVC.ret (join_seal_spec [[51, 58, 97, 98, 99]] _ _ (o60.boxArr 0 rfl rfl (Nat.le_refl _)) (by simp) (by simp) (ht.ext o60.ext)) ?_
  rintro _ h6 ⟨rfl, oc⟩
  have o6 : Own h [] h6 := (o60.ext' oc).sel [] rfl
  clear oc o5 o60
  rw [ex_join]
  (refine RunVC.lit o6 sl22 ty9 rfl rfl (by decide) (And.intro rfl ?_); intro b70 m70 o70)
  refine CallVC.ret (join_seal_spec [[52, 58, 97, 98, 99]] _ _ (o70.boxArr 0 rfl rfl (Nat.le_refl _)) (by simp) (by simp) (ht.ext o70.ext)) ?_
  rintro _ h7 ⟨rfl, oc⟩
  have o7 : Own h [] h7 := (o70.ext' oc).sel [] rfl
  clear oc o6 o70
  rw [ex_join4]
  refine CallVC.ret (sum_spec [] _ (by simp)) ?_
  rintro _ h8 ⟨rfl, oc⟩
  have o8 := o7.ext' oc
  clear oc o7
  rw [ex_sum0]
  refine Br.tt ?_
  refine CallVC.ret (sum_spec [97] _ (by simp)) ?_
  rintro _ h9 ⟨rfl, oc⟩
  have o9 := o8.ext' oc
  clear oc o8
  rw [ex_sum1]
  refine Br.tt ?_
  refine CallVC.ret (sum_spec [97, 98] _ (by simp)) ?_
  rintro _ h10 ⟨rfl, oc⟩
  have o10 := o9.ext' oc
  clear oc o9
  rw [ex_sum2]
  refine Br.tt ?_
  refine Br.tt ?_
  refine StillVC.run (StillVC.lenS rfl str9 ?_)
  refine Br.dec (fun c111 => ?_) (fun hc => absurd (by omega) hc)
  refine Br.tt ?_
  refine Br.tt ?_
  refine Br.tt ?_
  refine Br.tt ?_
  refine Br.tt ?_
  refine CallVC.ret (split_spec [97, 98, 99] _ (ht.ext o10.ext) (by simp)) ?_
  rintro w h11 oc
  rw [ex_split] at oc
  have o11 : Own h [ro w (strs [[51, 58, 97, 98, 99]])] h11 := o10.call oc
  clear oc o10
  (refine RunVC.lit o11 sl22 ty9 rfl rfl (by decide) (And.intro rfl ?_); intro b120 m120 o120)
  refine CallVC.ret (same_spec [[51, 58, 97, 98, 99]] [[51, 58, 97, 98, 99]] _ _ _ (o120.roArr 0 rfl) (o120.boxArr 1 rfl rfl (Nat.le_refl _)) (by simp)) ?_
  rintro _ h12 ⟨rfl, oc⟩
  have o12 : Own h [] h12 := (o120.ext' oc).sel [] rfl
  clear oc o11 o120
  refine Br.tt ?_
  refine Br.tt ?_
  refine Br.tt ?_
  refine RetVC.one rfl ?_
  exact ⟨rfl, o12⟩

end Go.Proofs.YtihnelncimkegaaDoor
