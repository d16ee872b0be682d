/-
  The library's sync.Once for one goroutine: its parts.
-/
import Derived.Test.YtffpaippmfafjaaGreatDoorStructs
namespace Go.Proofs.YtffpaippmfafjaaGreatDoor
open Go

set_option maxRecDepth 100000 in
theorem boolLoad_spec (b off : Nat) (x : Int) (h : Heap) (hc : cellAt h ⟨b, off, none⟩ = some (.int .u32 x)) :
    SpecR Tryz.prog 61 [.pointer (some ⟨b, off, none⟩)] h fun r h' => r = .bool (!decide (x = 0)) ∧ h' = h := by
  refine Spec.enter Tryz.func61 rfl Tryz.ntmps61 (by kernel_rfl) ?_
  refine StillVC.run (StillVC.nilCheck rfl ?_)
  refine StillVC.run (StillVC.fieldAddr st81 rfl rfl rfl ?_)
  refine CallVC.ext (XSpec.load Tryz.func71 (by kernel_rfl) (by kernel_rfl) (by kernel_rfl) .u32 (by kernel_rfl) hc) ?_
  rintro _ hx ⟨rfl, rfl⟩
  refine RetVC.one rfl ?_
  exact ⟨rfl, rfl⟩

set_option maxRecDepth 100000 in
theorem ilock_spec (B : Base) (b off : Nat) (cs : List Value) (t : TypeId) (h : Heap) (o0 : Own B [box b cs t] h) (hc : cs[off]? = some (.int .i32 0)) :
    SpecR Tryz.prog 84 [.pointer (some ⟨b, off, none⟩)] h fun r h' => r = .tuple #[] ∧ Own B [box b (cs.set off (.int .i32 1)) t] h' := by
  have hlt : off < cs.length := (List.getElem?_eq_some_iff.1 hc).1
  have hc1 : (cs.set off (.int .i32 1))[off]? = some (.int .i32 1) := by simp [hlt]
  refine Spec.enter Tryz.func84 rfl Tryz.ntmps84 (by kernel_rfl) ?_
  refine CallVC.ext (XSpec.mark0 Tryz.func97 (by kernel_rfl) (by kernel_rfl) (by kernel_rfl) .disable (by kernel_rfl)) ?_
  rintro _ hx ⟨rfl, rfl⟩
  refine StillVC.run (StillVC.nilCheck rfl ?_)
  refine StillVC.run (StillVC.fieldAddr st83 rfl rfl rfl ?_)
  refine CallVC.ext (XSpec.cas Tryz.func98 (by kernel_rfl) (by kernel_rfl) (by kernel_rfl) .i32 (by kernel_rfl) o0 0 rfl hc) ?_
  rintro _ h2 ⟨rfl, o2⟩
  refine Br.tt ?_
  refine Br.tt ?_
  refine CallVC.ext (XSpec.mark0 Tryz.func99 (by kernel_rfl) (by kernel_rfl) (by kernel_rfl) .enable (by kernel_rfl)) ?_
  rintro _ hx ⟨rfl, rfl⟩
  refine StillVC.run (StillVC.toUnsafe (e := 83) (by kernel_rfl) (by kernel_rfl) (by kernel_rfl) rfl ((o2.cellB 0 rfl _).trans hc1) ?_)
  refine CallVC.ext (XSpec.marked Tryz.func100 (by kernel_rfl) (by kernel_rfl) (by kernel_rfl) .acquire (by kernel_rfl) _) ?_
  rintro _ hx ⟨rfl, rfl⟩
  refine RetVC.zero rfl ?_
  exact ⟨rfl, o2⟩

set_option maxRecDepth 100000 in
theorem lock_spec (B : Base) (b off : Nat) (cs : List Value) (t : TypeId) (h : Heap) (o0 : Own B [box b cs t] h) (hc : cs[off]? = some (.int .i32 0)) :
    SpecR Tryz.prog 72 [.pointer (some ⟨b, off, none⟩)] h fun r h' => r = .tuple #[] ∧ Own B [box b (cs.set off (.int .i32 1)) t] h' := by
  refine Spec.enter Tryz.func72 rfl Tryz.ntmps72 (by kernel_rfl) ?_
  refine StillVC.run (StillVC.nilCheck rfl ?_)
  refine StillVC.run (StillVC.fieldAddr st85 rfl rfl rfl ?_)
  refine CallVC.ret (ilock_spec B b off cs t _ o0 hc) ?_
  rintro _ h2 ⟨rfl, o2⟩
  refine RetVC.zero rfl ?_
  exact ⟨rfl, o2⟩

set_option maxRecDepth 100000 in
theorem iunlock_spec (B : Base) (b off : Nat) (cs : List Value) (t : TypeId) (h : Heap) (o0 : Own B [box b cs t] h) (hc : cs[off]? = some (.int .i32 1)) :
    SpecR Tryz.prog 85 [.pointer (some ⟨b, off, none⟩)] h fun r h' => r = .tuple #[] ∧ Own B [box b (cs.set off (.int .i32 0)) t] h' := by
  have hcell := (o0.cellB 0 rfl off).trans hc
  refine Spec.enter Tryz.func85 rfl Tryz.ntmps85 (by kernel_rfl) ?_
  refine Br.tt ?_
  refine StillVC.run (StillVC.nilCheck rfl ?_)
  refine StillVC.run (StillVC.fieldAddr st83 rfl rfl rfl ?_)
  refine StillVC.run (StillVC.loadO o0 0 rfl ty21 rfl (by assumption) ?_)
  refine StillVC.run (StillVC.toUnsafe (e := 83) (by kernel_rfl) (by kernel_rfl) (by kernel_rfl) rfl hcell ?_)
  refine CallVC.ext (XSpec.marked Tryz.func102 (by kernel_rfl) (by kernel_rfl) (by kernel_rfl) .releaseMerge (by kernel_rfl) _) ?_
  rintro _ hx ⟨rfl, rfl⟩
  refine CallVC.ext (XSpec.mark0 Tryz.func97 (by kernel_rfl) (by kernel_rfl) (by kernel_rfl) .disable (by kernel_rfl)) ?_
  rintro _ hx ⟨rfl, rfl⟩
  refine StillVC.run (StillVC.nilCheck rfl ?_)
  refine StillVC.run (StillVC.fieldAddr st83 rfl rfl rfl ?_)
  refine CallVC.ext (XSpec.add Tryz.func103 (by kernel_rfl) (by kernel_rfl) (by kernel_rfl) .i32 (by kernel_rfl) o0 0 rfl hc) ?_
  rintro _ h2 ⟨rfl, o2⟩
  refine Br.ff ?_
  refine CallVC.ext (XSpec.mark0 Tryz.func99 (by kernel_rfl) (by kernel_rfl) (by kernel_rfl) .enable (by kernel_rfl)) ?_
  rintro _ hx ⟨rfl, rfl⟩
  refine RetVC.zero rfl ?_
  exact ⟨rfl, o2⟩

set_option maxRecDepth 100000 in
theorem unlock_spec (B : Base) (b off : Nat) (cs : List Value) (t : TypeId) (h : Heap) (o0 : Own B [box b cs t] h) (hc : cs[off]? = some (.int .i32 1)) :
    DSpec Tryz.prog 73 [.pointer (some ⟨b, off, none⟩)] h (Ret fun r h' => r = .tuple #[] ∧ Own B [box b (cs.set off (.int .i32 0)) t] h') := by
  refine DSpec.enter Tryz.func73 rfl (n := 6) (by kernel_rfl) (by kernel_rfl) ?_
  refine StillVC.run (StillVC.nilCheck rfl ?_)
  refine StillVC.run (StillVC.fieldAddr st85 rfl rfl rfl ?_)
  refine CallVC.ret (iunlock_spec B b off cs t _ o0 hc) ?_
  rintro _ h2 ⟨rfl, o2⟩
  refine RetVC.zero rfl ?_
  exact ⟨rfl, o2⟩

set_option maxRecDepth 100000 in
theorem b32_spec (h : Heap) : SpecR Tryz.prog 87 [.bool true] h fun r h' => r = .int .u32 1 ∧ h' = h := by
  refine Spec.enter Tryz.func87 rfl Tryz.ntmps87 (by kernel_rfl) ?_
  refine Br.tt ?_
  refine RetVC.one rfl ?_
  exact ⟨rfl, rfl⟩

set_option maxRecDepth 100000 in
theorem boolStore_spec (B : Base) (b off : Nat) (cs : List Value) (t : TypeId) (u : Value) (h : Heap) (o0 : Own B [box b cs t] h) (hc : cs[off]? = some u) :
    DSpec Tryz.prog 74 [.pointer (some ⟨b, off, none⟩), .bool true] h (Ret fun r h' => r = .tuple #[] ∧ Own B [box b (cs.set off (.int .u32 1)) t] h') := by
  refine DSpec.enter Tryz.func74 rfl (n := 10) (by kernel_rfl) (by kernel_rfl) ?_
  refine DrawVC.intro [0, 1, 2, 3] [] [4, 5] [0, 1, 2, 3, 4, 5] mixed (by kernel_rfl) rfl (fun _ _ _ _ h => h) ?_
  refine StillVC.nilCheck rfl ?_
  refine StillVC.fieldAddr st81 rfl rfl rfl ?_
  refine CallVC.ret (b32_spec _) ?_
  rintro _ hx ⟨rfl, rfl⟩
  refine CallVC.ext (XSpec.store Tryz.func86 (by kernel_rfl) (by kernel_rfl) (by kernel_rfl) (by kernel_rfl) o0 0 rfl hc) ?_
  rintro _ h2 ⟨rfl, o2⟩
  refine RetVC.zero rfl ?_
  exact ⟨rfl, o2⟩

end Go.Proofs.YtffpaippmfafjaaGreatDoor
