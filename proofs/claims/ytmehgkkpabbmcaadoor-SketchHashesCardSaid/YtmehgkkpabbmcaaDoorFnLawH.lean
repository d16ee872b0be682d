/-
  The statement SketchHashes of chapter 5, walked.
-/
import Derived.Test.YtmehgkkpabbmcaaDoorStructs
import Derived.Test.YtmehgkkpabbmcaaDoorFnHead
namespace Go.Proofs.YtmehgkkpabbmcaaDoor
open Go

theorem hash_shift (l : List UInt8) (seed : Int) : hash l (seed - 2147483647) = hash l seed := by
  unfold hash
  rw [show (seed - 2147483647) % 2147483647 = seed % 2147483647 by omega]

set_option maxRecDepth 100000 in
theorem hashes_spec (l : List UInt8) (seed : Int) (h : Heap) (s1 : seed ≤ 9223372036854775807) (ht : TabH h) :
    SpecR Tryd.prog 8 [.string ⟨⟨l⟩⟩, .int .i64 seed] h fun r h' => r = .bool true ∧ Own h [] h' := by
  refine Spec.enter Tryd.func8 rfl Tryd.ntmps8 (by kernel_rfl) ?_
  refine CallVC.ret (head_spec h ht) ?_
  rintro _ h1 ⟨rfl, o1⟩
  by_cases hl : 500 < l.length
  · refine StillVC.run (StillVC.lenS rfl str9 ?_)
    refine Br.dec (fun c21 => ?_) (fun hc => absurd (by omega) hc)
    refine Br.tt ?_
    refine RetVC.one rfl ?_
    exact ⟨rfl, o1⟩
  · by_cases hs : seed < -1000000000000
    · refine StillVC.run (StillVC.lenS rfl str9 ?_)
      refine Br.dec (fun hc => absurd hc (by omega)) (fun c31 => ?_)
      refine Br.dec (fun c32 => ?_) (fun hc => absurd (by omega) hc)
      refine RetVC.one rfl ?_
      exact ⟨rfl, o1⟩
    · refine StillVC.run (StillVC.lenS rfl str9 ?_)
      refine Br.dec (fun hc => absurd hc (by omega)) (fun c41 => ?_)
      refine Br.dec (fun hc => absurd hc (by omega)) (fun c42 => ?_)
      refine CallVC.ret (hash_spec l seed _ (by omega)) ?_
      rintro _ h2 ⟨rfl, oc⟩
      have o2 := o1.ext' oc
      have hr := hash_range l seed
      refine Br.tt ?_
      refine Br.dec (fun c50 => ?_) (fun hc => absurd (by omega) hc)
      refine Br.dec (fun c51 => ?_) (fun hc => absurd (by omega) hc)
      refine Ar.i64 (by omega) (by omega) ?_
      refine CallVC.ret (hash_spec l (seed - 2147483647) _ (by omega)) ?_
      rintro _ h3 ⟨rfl, od⟩
      have o3 := o2.ext' od
      refine RetVC.one rfl ?_
      rw [hash_shift]
      exact ⟨by simp, o3⟩

end Go.Proofs.YtmehgkkpabbmcaaDoor
