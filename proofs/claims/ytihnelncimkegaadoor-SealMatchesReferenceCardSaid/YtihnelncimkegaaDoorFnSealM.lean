/-
  The statement SealMatchesReference of chapter 45, walked.
-/
import Derived.Test.YtihnelncimkegaaDoorStructs
import Derived.Test.YtihnelncimkegaaDoorFnSealHead
import Derived.Test.YtihnelncimkegaaDoorFnRefGet
namespace Go.Proofs.YtihnelncimkegaaDoor
open Go

theorem bytesB_spec {bs : List (List UInt8)} (h : bytesB bs = true) : bs.length ≤ 40 ∧ ∀ s ∈ bs, s.length ≤ 200 := by
  simpa [bytesB] using h

set_option maxHeartbeats 1600000 in
set_option maxRecDepth 100000 in
theorem matches_spec (e p : Int) (b l t : List UInt8) (bs : List (List UInt8)) (v : Value) (h : Heap) (a0 : Arr h v (strs bs)) (hb : b.length ≤ 140737488351232) (hl : l.length ≤ 140737488351232) (hm : t.length ≤ 140737488351232) (hbs : bs.length ≤ 140737488351232) (ht : TabH h) :
    SpecR Tryd.prog 3 [.int .i64 e, .int .i64 p, .string ⟨⟨b⟩⟩, .string ⟨⟨l⟩⟩, .string ⟨⟨t⟩⟩, v] h fun r h' => r = .bool true ∧ Own h [] h' := by
  refine Spec.enter Tryd.func3 rfl Tryd.ntmps3 (by kernel_rfl) ?_
  refine CallVC.ret (head_spec h ht) ?_
  rintro _ h1 ⟨rfl, o1⟩
  by_cases k1 : 200 < b.length
  · refine StillVC.run (StillVC.lenS rfl str9 ?_)
    refine Br.dec (fun c21 => ?_) (fun hc => absurd (by omega) hc)
    refine Br.tt ?_
    refine RetVC.one rfl ?_
    exact ⟨rfl, o1⟩
  by_cases k2 : 200 < l.length
  · refine StillVC.run (StillVC.lenS rfl str9 ?_)
    refine Br.dec (fun hc => absurd hc (by omega)) (fun c21 => ?_)
    refine StillVC.run (StillVC.lenS rfl str9 ?_)
    refine Br.dec (fun c23 => ?_) (fun hc => absurd (by omega) hc)
    refine Br.tt ?_
    refine RetVC.one rfl ?_
    exact ⟨rfl, o1⟩
  by_cases k3 : 2000 < t.length
  · refine StillVC.run (StillVC.lenS rfl str9 ?_)
    refine Br.dec (fun hc => absurd hc (by omega)) (fun c21 => ?_)
    refine StillVC.run (StillVC.lenS rfl str9 ?_)
    refine Br.dec (fun hc => absurd hc (by omega)) (fun c23 => ?_)
    refine StillVC.run (StillVC.lenS rfl str9 ?_)
    refine Br.dec (fun c25 => ?_) (fun hc => absurd (by omega) hc)
    refine Br.tt ?_
    refine RetVC.one rfl ?_
    exact ⟨rfl, o1⟩
  refine StillVC.run (StillVC.lenS rfl str9 ?_)
  refine Br.dec (fun hc => absurd hc (by omega)) (fun c31 => ?_)
  refine StillVC.run (StillVC.lenS rfl str9 ?_)
  refine Br.dec (fun hc => absurd hc (by omega)) (fun c33 => ?_)
  refine StillVC.run (StillVC.lenS rfl str9 ?_)
  refine Br.dec (fun hc => absurd hc (by omega)) (fun c35 => ?_)
  refine CallVC.ret (bytes40_spec bs v _ (a0.ext o1.ext) hbs) ?_
  rintro _ h2 ⟨rfl, oc⟩
  have o2 := o1.ext' oc
  clear oc o1
  cases hk : bytesB bs with
  | false =>
    refine Br.tt ?_
    refine RetVC.one rfl ?_
    exact ⟨rfl, o2⟩
  | true =>
  obtain ⟨g1, g2⟩ := bytesB_spec hk
  have g3 := flatten_short g1 g2
  refine Br.ff ?_
  refine CallVC.ret (put_spec e p b _ hb) ?_
  rintro _ h3 ⟨rfl, oc⟩
  have o3 := o2.ext' oc
  clear oc o2
  refine CallVC.ret (refPut_spec e p b _ hb) ?_
  rintro _ h4 ⟨rfl, oc⟩
  have o4 := o3.ext' oc
  clear oc o3
  refine CallVC.ret (get_spec e p l _ hl) ?_
  rintro _ h5 ⟨rfl, oc⟩
  have o5 := o4.ext' oc
  clear oc o4
  refine CallVC.ret (refGet_spec e p l _ (by omega)) ?_
  rintro _ h6 ⟨rfl, oc⟩
  have o6 := o5.ext' oc
  clear oc o5
  refine CallVC.ret (join_seal_spec bs v _ (a0.ext o6.ext) (by omega) (by omega) (ht.ext o6.ext)) ?_
  rintro _ h7 ⟨rfl, oc⟩
  have o7 := o6.ext' oc
  clear oc o6
  refine CallVC.ret (refJoin_spec bs v _ (a0.ext o7.ext) (by omega) (by omega)) ?_
  rintro _ h8 ⟨rfl, oc⟩
  have o8 := o7.ext' oc
  clear oc o7
  generalize (putR e p b).1 = x1 at *
  generalize (putR e p b).2 = x2 at *
  generalize (getR e p l).1 = x3 at *
  generalize (getR e p l).2 = x4 at *
  generalize (joinR bs).1 = x5 at *
  generalize (joinR bs).2 = x6 at *
  refine Br.tt ?_
  refine Br.dec (fun c110 => ?_) (fun hc => absurd (by first | assumption | decide | exact rfl | (simp; done)) hc)
  refine Br.dec (fun c111 => ?_) (fun hc => absurd (by omega) hc)
  refine Br.dec (fun c112 => ?_) (fun hc => absurd (by first | assumption | decide | exact rfl | (simp; done)) hc)
  refine Br.dec (fun c113 => ?_) (fun hc => absurd (by omega) hc)
  refine Br.dec (fun c114 => ?_) (fun hc => absurd (by first | assumption | decide | exact rfl | (simp; done)) hc)
  refine Br.dec (fun c115 => ?_) (fun hc => absurd (by omega) hc)
  refine CallVC.ret (sum_spec t _ (by omega)) ?_
  rintro _ h9 ⟨rfl, oc⟩
  have o9 := o8.ext' oc
  clear oc o8
  refine CallVC.ret (refSum_spec t _ (by omega)) ?_
  rintro _ h10 ⟨rfl, oc⟩
  have o10 := o9.ext' oc
  clear oc o9
  refine Br.dec (fun c130 => ?_) (fun hc => absurd (by omega) hc)
  refine CallVC.ret (split_spec t _ (ht.ext o10.ext) (by omega)) ?_
  rintro wa h11 oc
  have o11 : Own h [ro wa (strs (splitL t))] h11 := o10.call oc
  clear oc o10
  refine CallVC.ret (refSplit_spec t _ (by omega)) ?_
  rintro wb h12 oc
  have o12 : Own h [ro wa (strs (splitL t)), ro wb (strs (splitL t))] h12 := o11.call oc
  clear oc o11
  refine CallVC.ret (same_spec (splitL t) (splitL t) _ _ _ (o12.roArr 0 rfl) (o12.roArr 1 rfl) (by have := splitL_len2 (t := t) (by omega); omega)) ?_
  rintro _ h13 ⟨rfl, oc⟩
  have o13 : Own h [] h13 := (o12.ext' oc).sel [] rfl
  clear oc o12
  refine RetVC.one rfl ?_
  exact ⟨by simp, o13⟩

end Go.Proofs.YtihnelncimkegaaDoor
