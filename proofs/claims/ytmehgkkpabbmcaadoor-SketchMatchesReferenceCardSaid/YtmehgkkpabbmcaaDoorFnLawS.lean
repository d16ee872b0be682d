/-
  The statement SketchSets of chapter 5, walked.
-/
import Derived.Test.YtmehgkkpabbmcaaDoorStructs
import Derived.Test.YtmehgkkpabbmcaaDoorFnHead
import Derived.Test.YtmehgkkpabbmcaaDoorFnLeast
namespace Go.Proofs.YtmehgkkpabbmcaaDoor
open Go

theorem fewB_spec {ss : List (List UInt8)} (h : fewB ss = true) : ss.length ≤ 40 ∧ ∀ s ∈ ss, s.length ≤ 100 := by
  simpa [fewB] using h

theorem fewB_short {ss : List (List UInt8)} (h : fewB ss = true) : Short ss :=
  ⟨by have := (fewB_spec h).1; omega, fun t ht => by have := (fewB_spec h).2 t ht; omega⟩

theorem back_get {ss : List (List UInt8)} {i : Nat} (hi : i < ss.length) : ss.reverse[i]? = ss[ss.length - 1 - i]? := List.getElem?_reverse hi

set_option maxRecDepth 100000 in
theorem sets_spec (ss : List (List UInt8)) (v : Value) (raw : Int) (h : Heap) (a0 : Arr h v (strs ss)) (hl : ss.length ≤ 140737488351232) (r0 : 0 ≤ raw) (r1 : raw ≤ 255) (ht : TabH h) :
    SpecR Tryd.prog 4 [v, .int .u8 raw] h fun r h' => r = .bool true ∧ Own h [] h' := by
  refine Spec.enter Tryd.func4 rfl Tryd.ntmps4 (by kernel_rfl) ?_
  have ls : (strs ss).length = ss.length := by simp
  refine CallVC.ret (head_spec h ht) ?_
  rintro _ h1 ⟨rfl, o1⟩
  refine CallVC.ret (few_spec ss v _ (a0.ext o1.ext) hl) ?_
  rintro _ h2 ⟨rfl, oc⟩
  have o2 := o1.ext' oc
  clear oc o1
  cases hf : fewB ss with
  | false =>
    refine Br.tt ?_
    refine Br.tt ?_
    refine RetVC.one rfl ?_
    exact ⟨rfl, o2⟩
  | true =>
    have hS := fewB_short hf
    obtain ⟨hf1, hf2⟩ := fewB_spec hf
    by_cases h0 : ss.length = 0
    · refine Br.ff ?_
      refine StillVC.run (StillVC.lenAn (a0.ext o2.ext) (by assumption) sl22 ?_)
      refine Br.dec (fun c31 => ?_) (fun hc => absurd (by omega) hc)
      refine RetVC.one rfl ?_
      exact ⟨rfl, o2⟩
    · have oN := o2.nilRow 9 1
      have lr : ss.reverse.length = ss.length := by simp
      refine Br.ff ?_
      refine StillVC.run (StillVC.lenAn (a0.ext oN.ext) (by assumption) sl22 ?_)
      refine Br.dec (fun hc => absurd hc (by omega)) (fun c41 => ?_)
      refine StillVC.run (StillVC.convI rfl int5 int3 ?_)
      refine Ar.i64 (by omega) (by omega) ?_
      refine StillVC.run (StillVC.remE rfl rfl (by omega) (by omega) ?_)
      refine Ar.i64 (by omega) (by omega) ?_
      refine LoopVC.intro [7, 8, 27, 28, 29, 30, 31, 32, 33, 34, 35, 36, 37, 38, 39, 40, 41, 42, 43] [7, 8] (fun vs hh => ∃ (i : Nat) (w : Value), i ≤ ss.length ∧ vs = [w, .int .i64 i] ∧ Own h [row w 9 1 i (strs (ss.reverse.take i))] hh) (fun vs _ => match vs with | [_, .int _ i] => ss.length - i.toNat | _ => 0) ?_ ?_
      · exact ⟨0, _, by omega, rfl, oN⟩
      · clear oN
        rintro vs junk h3 ⟨i, w, hi, rfl, o3⟩
        by_cases hlt : i < ss.length
        · obtain ⟨t, hg⟩ := getx (show ((ss.length : Int) - 1 - i).toNat < ss.length by omega)
          have hidx : ((ss.length : Int) - 1 - i).toNat = ss.length - 1 - i := by omega
          refine StillVC.run (StillVC.lenAn (a0.ext o3.ext) (by assumption) sl22 ?_)
          refine Br.dec (fun c51 => ?_) (fun hc => absurd (by omega) hc)
          refine StillVC.run (StillVC.lenAn (a0.ext o3.ext) (by assumption) sl22 ?_)
          refine Ar.i64 (by omega) (by omega) ?_
          refine Ar.i64 (by omega) (by omega) ?_
          refine StillVC.run (StillVC.idx sl22 ty9 (a0.ext o3.ext) rfl (by omega) (by omega) ?_)
          refine StillVC.run (StillVC.loadM (a0.ext o3.ext) ty9 rfl (by first | assumption | rfl) ?_)
          (refine RunVC.lit o3 sl22 ty9 rfl rfl (by decide) (And.intro rfl ?_); intro b55 m55 o55)
          (refine RunVC.append o55 0 rfl sl22 ty9 (by decide) (o55.boxArr 1 rfl (by simp) (by simp)).toN (by simp [Value.oneCell']) (by simp [maxLen]; omega) (by simp; omega) ?_; intro v56 m56 o56)
          refine Ar.i64 (by omega) (by omega) ?_
          refine ⟨rfl, ?_⟩
          have e : strs (ss.reverse.take (i + 1)) = strs (ss.reverse.take i) ++ [Value.string ⟨⟨t⟩⟩] := by
            rw [List.take_add_one, back_get hlt, ← hidx, hg]; simp
          refine ⟨⟨i + 1, _, by omega, rfl, ?_⟩, by simp; omega⟩
          rw [e]
          exact o56.sel [0] rfl
        · obtain rfl : i = ss.length := by omega
          rw [List.take_of_length_le (by omega)] at o3
          have n1 : 1 ≤ 1 + raw % 64 ∧ 1 + raw % 64 ≤ 64 := by omega
          generalize hn : 1 + raw % 64 = n at *
          obtain ⟨t0, g0⟩ := getx (show Int.toNat 0 < ss.length by omega)
          have hm : ∀ l, makeR l n = (makeL l n.toNat, 0) := fun l => by simp [makeR, n1]
          refine StillVC.run (StillVC.lenAn (a0.ext o3.ext) (by assumption) sl22 ?_)
          refine Br.dec (fun hc => absurd hc (by omega)) (fun c61 => ?_)
          refine CallVC.ret (make_spec v ss n _ (a0.ext o3.ext) hS) ?_
          rintro _ h4 ⟨wa, rfl, oc⟩
          rw [hm] at oc ⊢
          have o4 : Own h [row w 9 1 ss.length (strs ss.reverse), ro wa (ints (makeL ss n.toNat))] h4 := o3.call oc
          clear oc o3
          refine StillVC.run (StillVC.idx sl22 ty9 (a0.ext o4.ext) rfl (by omega) (by omega) ?_)
          refine StillVC.run (StillVC.loadM (a0.ext o4.ext) ty9 rfl (by first | assumption | rfl) ?_)
          (refine RunVC.lit o4 sl22 ty9 rfl rfl (by decide) (And.intro rfl ?_); intro b72 m72 o72)
          (refine RunVC.append o72 0 rfl sl22 ty9 (by decide) (o72.boxArr 2 rfl (by simp) (by simp)).toN (by simp [Value.oneCell']) (by simp [maxLen]; omega) (by simp; omega) ?_; intro v73 m73 o73)
          have hS2 : Short (ss.reverse ++ [t0]) := ⟨by simp; omega, fun t ht => hS.2 t (by
            rcases List.mem_append.1 ht with ht | ht
            · simpa using ht
            · simp only [List.mem_singleton] at ht; subst ht; exact List.mem_of_getElem? g0)⟩
          have hmem : ∀ t, t ∈ ss ↔ t ∈ ss.reverse ++ [t0] := fun t => by
            have := List.mem_of_getElem? g0
            simp only [List.mem_append, List.mem_reverse, List.mem_singleton]
            exact ⟨.inl, fun h => h.elim id fun e => e ▸ this⟩
          have e2 : strs (ss.reverse ++ [t0]) = strs ss.reverse ++ [Value.string ⟨⟨t0⟩⟩] := by simp
          refine CallVC.ret (make_spec v73 (ss.reverse ++ [t0]) n _ (by rw [e2]; exact o73.rowArr 0 rfl) hS2) ?_
          rintro _ h5 ⟨wb, rfl, oc⟩
          rw [hm, ← makeL_eq _ hmem] at oc
          rw [hm]
          have o5 : Own h [ro wa (ints (makeL ss n.toNat)), ro wb (ints (makeL ss n.toNat))] h5 := (o73.call oc).sel [1, 3] rfl
          have lm : (ints (makeL ss n.toNat)).length = n.toNat := by simp [makeL_length]
          have lm2 := makeL_length ss n.toNat
          clear oc o4 o73 o72
          refine Br.tt ?_
          refine Br.dec (fun c80 => ?_) (fun hc => absurd (by omega) hc)
          refine Br.dec (fun c81 => ?_) (fun hc => absurd (by omega) hc)
          refine StillVC.run (StillVC.lenAn (o5.roArr 0 rfl) (by assumption) sl23 ?_)
          refine Br.dec (fun c83 => ?_) (fun hc => absurd (by omega) hc)
          refine CallVC.ret (refInts_spec _ _ _ _ _ (o5.roArr 0 rfl) (o5.roArr 1 rfl) (by omega)) ?_
          rintro _ h6 ⟨rfl, oc⟩
          have o6 := o5.ext' oc
          refine RetVC.one rfl ?_
          exact ⟨by simp, o6.sel [] rfl⟩

end Go.Proofs.YtmehgkkpabbmcaaDoor
