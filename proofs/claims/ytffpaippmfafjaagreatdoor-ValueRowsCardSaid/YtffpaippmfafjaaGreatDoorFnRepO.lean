/-
  The library's sync.Once for one goroutine: the first Do.
-/
import Derived.Test.YtffpaippmfafjaaGreatDoorStructs
import Derived.Test.YtffpaippmfafjaaGreatDoorFnRepS
namespace Go.Proofs.YtffpaippmfafjaaGreatDoor
open Go

theorem Own.lend1 {B : Base} {x : Item} {L2 : List Item} {h : Heap} (o : Own B (x :: L2) h) : Own ⟨B.h, L2 ++ B.T⟩ [x] h := o
theorem Own.back1 {B : Base} {x : Item} {L2 : List Item} {h : Heap} (o : Own ⟨B.h, L2 ++ B.T⟩ [x] h) : Own B (x :: L2) h := o

def pA (b o : Nat) : Value := .pointer (some ⟨b, o, none⟩)

set_option maxHeartbeats 4000000 in
set_option maxRecDepth 100000 in
theorem slow_spec (B : Base) (b : Nat) (cs : List Value) (F : List Value → List Item → Prop) (t : TypeId) (g : FuncId) (first cap : List Value) (h : Heap) (o0 : Own B [box b cs t] h)
    (c0 : cs[0]? = some (.int .u32 0)) (c1 : cs[1]? = some (.int .i32 0))
    (hf : ∀ h', Own B [box b (cs.set 1 (.int .i32 1)) t] h' → SpecR Tryz.prog g (first ++ cap) h' fun v h'' => v = .tuple #[] ∧ ∃ cs2 L2, F cs2 L2 ∧ cs2[0]? = some (.int .u32 0) ∧ cs2[1]? = some (.int .i32 1) ∧ Own B (box b cs2 t :: L2) h'') :
    SpecR Tryz.prog 62 [pA b 0, .func (.func g) ⟨first⟩ ⟨cap⟩] h fun v h' => v = .tuple #[] ∧ ∃ cs2 L2, F cs2 L2 ∧ Own B (box b ((cs2.set 0 (.int .u32 1)).set 1 (.int .i32 0)) t :: L2) h' := by
  have hd : (cs.set 1 (.int .i32 1))[0]? = some (.int .u32 0) := by
    rw [List.getElem?_set_ne (by omega)]; exact c0
  refine ⟨⟨_, Tryz.func62, rfl, by kernel_rfl⟩, fun w hw => ?_⟩
  subst hw
  refine calls_of_wp_defers (R := fun e w' => Same w w' ∧ Ret (fun v h' => v = .tuple #[] ∧ ∃ cs2 L2, F cs2 L2 ∧ Own B (box b ((cs2.set 0 (.int .u32 1)).set 1 (.int .i32 0)) t :: L2) h') e w'.heap) Tryz.func62 rfl ?_
  have he : ({ tmps := [pA b 0, .func (.func g) ⟨first⟩ ⟨cap⟩].toArray ++ Array.replicate (21 - [pA b 0, .func (.func g) ⟨first⟩ ⟨cap⟩].toArray.size) undef, defers := [] } : Act) =
      act [pA b 0, .func (.func g) ⟨first⟩ ⟨cap⟩, undef, undef, undef, undef, undef, undef, undef, undef, undef, undef, undef, undef, undef, undef, undef, undef, undef, undef, undef] [] := by
    simp [act, List.replicate]
  refine he ▸ ?_
  refine wp_seq (wp_mono (vcode_sound (w0 := w) (ds := []) _ (fun e s' h' => e = .normal ∧ s' = [pA b 0, .func (.func g) ⟨first⟩ ⟨cap⟩, undef, undef, pA b 0, pA b 0, pA b 1, .tuple #[], undef, undef, undef, undef, undef, undef, undef, undef, undef, undef, undef, undef, undef] ∧ Own B [box b (cs.set 1 (.int .i32 1)) t] h') _ w (.refl w) ?_) ?_)
  · refine StillVC.run (StillVC.nilCheck rfl ?_)
    refine StillVC.run (StillVC.fieldAddr st87 rfl rfl rfl ?_)
    refine CallVC.ret (lock_spec B b 1 cs t _ o0 c1) ?_
    rintro _ h2 ⟨rfl, o2⟩
    exact ⟨rfl, rfl, o2⟩
  rintro e a w1 ⟨s1, rfl, hs1, rfl, rfl, o1⟩
  refine wp_seq (wp_defer_field (o := 0) st87 rfl rfl rfl (by decide) (by decide) (by decide) (by simp) (by simp) ?_)
  refine wp_seq (wp_mono (vcode_sound (w0 := w) _ (fun e s' h' => e = .normal ∧ s' = [pA b 0, .func (.func g) ⟨first⟩ ⟨cap⟩, undef, undef, pA b 0, pA b 0, pA b 1, .tuple #[], pA b 0, pA b 0, pA b 1, pA b 0, pA b 0, pA b 0, .bool false, .bool true, undef, undef, undef, undef, undef] ∧ Own B [box b (cs.set 1 (.int .i32 1)) t] h') _ w1 hs1 ?_) ?_)
  · refine StillVC.run (StillVC.nilCheck rfl ?_)
    refine StillVC.run (StillVC.fieldAddr st87 rfl rfl rfl ?_)
    refine CallVC.ret (boolLoad_spec b 0 0 _ ((o1.cellB 0 rfl 0).trans hd)) ?_
    rintro _ h2 ⟨rfl, rfl⟩
    exact ⟨rfl, rfl, o1⟩
  rintro e a w2 ⟨s2, rfl, hs2, rfl, rfl, o2⟩
  refine wp_cond_split (t := true) rfl (fun _ => ?_) (fun h => by cases h)
  refine wp_seq (wp_defer_field (o := 0) st87 rfl rfl rfl (by decide) (by decide) (by decide) (by simp) (by simp) ?_)
  refine wp_mono (vcode_sound (w0 := w) _ (fun e s' h' => e = .normal ∧ ∃ cs2 L2, F cs2 L2 ∧ cs2[0]? = some (.int .u32 0) ∧ cs2[1]? = some (.int .i32 1) ∧ Own B (box b cs2 t :: L2) h') _ w2 hs2 ?_) ?_
  · refine RegVC.plain ?_
    refine CallVC.ret (hf _ o2) ?_
    rintro _ h3 ⟨rfl, o3⟩
    exact ⟨rfl, o3⟩
  rintro e a w3 ⟨s3, rfl, hs3, rfl, cs2, L2, hF, d0, d1, o3⟩
  have e1 : (cs2.set 0 (.int .u32 1))[1]? = some (.int .i32 1) := by
    rw [List.getElem?_set_ne (by omega)]; exact d1
  refine leaves_step (args := [pA b 0, .bool true]) (boolStore_spec _ b 0 cs2 t _ _ o3.lend1 d0) ?_
  rintro _ w4 hs4 ⟨rfl, o4⟩
  refine leaves_step (args := [pA b 1]) (unlock_spec _ b 1 _ t _ o4 e1) ?_
  rintro _ w5 hs5 ⟨rfl, o5⟩
  exact ⟨_, results_none rfl _ _ _, (hs3.trans hs4).trans hs5, rfl, cs2, L2, hF, o5.back1⟩

set_option maxHeartbeats 4000000 in
set_option maxRecDepth 100000 in
theorem do_spec (B : Base) (b : Nat) (cs : List Value) (F : List Value → List Item → Prop) (t : TypeId) (g : FuncId) (first cap : List Value) (h : Heap) (o0 : Own B [box b cs t] h)
    (c0 : cs[0]? = some (.int .u32 0)) (c1 : cs[1]? = some (.int .i32 0))
    (hf : ∀ h', Own B [box b (cs.set 1 (.int .i32 1)) t] h' → SpecR Tryz.prog g (first ++ cap) h' fun v h'' => v = .tuple #[] ∧ ∃ cs2 L2, F cs2 L2 ∧ cs2[0]? = some (.int .u32 0) ∧ cs2[1]? = some (.int .i32 1) ∧ Own B (box b cs2 t :: L2) h'') :
    SpecR Tryz.prog 49 [pA b 0, .func (.func g) ⟨first⟩ ⟨cap⟩] h fun v h' => v = .tuple #[] ∧ ∃ cs2 L2, F cs2 L2 ∧ Own B (box b ((cs2.set 0 (.int .u32 1)).set 1 (.int .i32 0)) t :: L2) h' := by
  refine Spec.enter Tryz.func49 rfl Tryz.ntmps49 (by kernel_rfl) ?_
  refine StillVC.run (StillVC.nilCheck rfl ?_)
  refine StillVC.run (StillVC.fieldAddr st87 rfl rfl rfl ?_)
  refine CallVC.ret (boolLoad_spec b 0 0 _ ((o0.cellB 0 rfl 0).trans c0)) ?_
  rintro _ hx ⟨rfl, rfl⟩
  refine Br.tt ?_
  refine CallVC.ret (slow_spec B b cs F t g first cap _ o0 c0 c1 hf) ?_
  rintro _ h2 ⟨rfl, o2⟩
  refine RetVC.zero rfl ?_
  exact ⟨rfl, o2⟩

end Go.Proofs.YtffpaippmfafjaaGreatDoor
