/-
  The library's replacer: NewReplacer, and how it is built once.
-/
import Derived.Test.YtffpaippmfafjaaGreatDoorStructs
import Derived.Test.YtffpaippmfafjaaGreatDoorFnRepB
namespace Go.Proofs.YtffpaippmfafjaaGreatDoor
open Go

def repCells (a : Option Addr) (c : Nat) : List Value := [.int .u32 0, .int .i32 0, .int .u32 0, .nilIface, .slice a 6 c]

set_option maxHeartbeats 4000000 in
set_option maxRecDepth 100000 in
theorem newReplacer_spec (v : Value) (h : Heap) (hA : Arr h v oldNew) :
    SpecR Tryz.prog 38 [v] h fun r h' => ∃ b a c, r = pA b 0 ∧ Own h [box b (repCells a c) 91, row (.slice a 6 c) 9 1 6 oldNew] h' := by
  have hol : oldNew.length = 6 := rfl
  have o0 := (Own.refl h).nilRow 9 1
  refine Spec.enter Tryz.func38 rfl Tryz.ntmps38 (by kernel_rfl) ?_
  refine StillVC.run (StillVC.lenAn hA (by assumption) sl75 ?_)
  refine StillVC.run (StillVC.remE rfl rfl (by omega) (by omega) ?_)
  refine Br.ff ?_
  refine RunVC.append (by assumption) 0 rfl sl75 ty9 (by decide) hA.toN (by simp [Value.oneCell', strV, oldNew]) (by simp [maxLen, oldNew]) (by simp [oldNew]) ?_
  intro v20 m20 o20
  obtain ⟨ta, tc, rfl⟩ := o20.rowIs 0 rfl
  refine StillVC.run (StillVC.buildK st91 ?_)
  refine And.intro rfl ?_
  (refine RunVC.boxO o20 rfl ?_; intro b31 m31 o31)
  refine RetVC.one rfl ?_
  exact ⟨b31, ta, tc, rfl, o31.sel [1, 0] rfl⟩

set_option maxHeartbeats 4000000 in
set_option maxRecDepth 100000 in
theorem buildOnce_spec (B : Base) (b : Nat) (d st se r : Value) (a : Option Addr) (c : Nat) (h : Heap)
    (o0 : Own B [box b [d, st, se, r, .slice a 6 c] 91, row (.slice a 6 c) 9 1 6 oldNew] h) :
    SpecR Tryz.prog 50 [pA b 0] h fun res h' => res = .tuple #[] ∧ ∃ rb cs t v w x, RepC cs t (repF v w x) ∧
      Own B [box b [d, st, se, .iface 121 (pA rb 0), nilS] 91, row (.slice a 6 c) 9 1 6 oldNew, box rb cs 120, row t 9 1 3 [strV [10], strV [92], strV [34]], ro v (bytes [92, 110]), ro w (bytes [92, 92]), ro x (bytes [92, 34])] h' := by
  refine Spec.enter Tryz.func50 rfl Tryz.ntmps50 (by kernel_rfl) ?_
  refine CallVC.ret (build_spec B b d st se r a c _ o0) ?_
  rintro _ h1 ⟨rb, cs, t, v, w, x, rfl, hR, o1⟩
  refine StillVC.run (StillVC.nilCheck rfl ?_)
  refine StillVC.run (StillVC.fieldAddr st91 rfl rfl rfl ?_)
  (refine RunVC.store o1 0 rfl ty89 rfl (by simp) (And.intro ⟨rfl, rfl⟩ ?_); intro m22 o22)
  refine StillVC.run (StillVC.nilCheck rfl ?_)
  refine StillVC.run (StillVC.fieldAddr st91 rfl rfl rfl ?_)
  (refine RunVC.store o22 0 rfl ty75 rfl (by simp) (And.intro ⟨rfl, rfl⟩ ?_); intro m25 o25)
  refine RetVC.zero rfl ?_
  exact ⟨rfl, rb, cs, t, v, w, x, hR, Own.sel (by assumption) [0, 1, 2, 3, 4, 5, 6] rfl⟩

end Go.Proofs.YtffpaippmfafjaaGreatDoor
