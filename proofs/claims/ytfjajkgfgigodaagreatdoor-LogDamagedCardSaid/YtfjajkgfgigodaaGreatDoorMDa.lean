/-
  The statement LogDamaged.
-/
import Derived.Test.YtfjajkgfgigodaaGreatDoorStructs
import Derived.Test.YtfjajkgfgigodaaGreatDoorVcSep
import Derived.Test.YtfjajkgfgigodaaGreatDoorOps
import Derived.Test.YtfjajkgfgigodaaGreatDoorMDu
/- The statement LogDamaged. -/
namespace Go.Proofs.YtfjajkgfgigodaaGreatDoor
open Go

set_option maxHeartbeats 8000000 in
set_option maxRecDepth 100000 in
theorem damaged_spec (n : Int) (k a m : Nat) (st : Bool) (xs : List OpW) (ov : Value) (h : Heap) (hk : k < 256) (ha : a < 256) (hm : m < 256) (ht : TabH h) (hO : Ops h ov xs) :
    SpecR Tryz.prog 4 [.int .i64 n, ov, .int .u8 k, .int .u8 a, .int .u8 m, .bool st] h fun r h' => r = .bool true ∧ Own h [] h' := by
  refine Spec.enter Tryz.func4 rfl Tryz.ntmps4 (by kernel_rfl) ?_
  refine CallVC.ret (head_spec46 h ht) ?_
  rintro _ m1 ⟨rfl, oc1⟩
  refine CallVC.ret (light_spec n xs ov _ (hO.ext oc1.ext)) ?_
  rintro _ m2 ⟨⟨bl, rfl, hl⟩, oc2⟩
  have o1 : Own ⟨h, []⟩ [] m2 := oc1.ext' oc2
  clear oc1 oc2
  cases bl with
  | false =>
    refine Br.tt ?_
    refine RetVC.one rfl ?_
    exact ⟨rfl, o1⟩
  | true =>
    have hL := hl rfl
    have hn40 := hL.n
    refine Br.ff ?_
    by_cases hn : n < 1
    · refine CallVC.ret (new_none n _ (.inl hn)) ?_
      rintro _ m3 ⟨rfl, oc⟩
      have o2 := o1.ext' oc
      clear oc o1
      refine CallVC.ret (open_nil _) ?_
      rintro _ m4 ⟨rfl, oc⟩
      have o3 := o2.ext' oc
      clear oc o2
      refine Br.tt ?_
      refine RetVC.one rfl ?_
      exact ⟨rfl, o3⟩
    obtain ⟨N, rfl⟩ : ∃ N : Nat, n = N := ⟨n.toNat, by omega⟩
    refine CallVC.ret (new_disk N _ (by omega) (by omega)) ?_
    rintro _ m3 ⟨dp, I0, rfl, hI0, oc⟩
    have o2 : Own ⟨h, []⟩ [I0] m3 := o1.call oc
    clear oc o1
    refine CallVC.ret (open_spec ⟨h, []⟩ dp (newD N) I0 _ ht hI0 (by simp [newD]) o2) ?_
    by_cases h6 : N < 6
    · rw [open_small h6]
      rintro _ m4 ⟨rfl, o3⟩
      clear o2
      refine Br.tt ?_
      refine RetVC.one rfl ?_
      exact ⟨rfl, o3.sel [] rfl⟩
    have hop := (new_dinv (n := N) (by omega) (by omega)).inv.open'
    rw [hop]
    rintro _ m4 ⟨lp, lv, rv, rfl, o3⟩
    replace o3 : Own ⟨h, []⟩ [I0, box lp (logC dp ⟨⟨0, 0, 0⟩, N, 0, [], false⟩ lv) 74, row lv 9 1 0 [], row rv 9 1 0 []] m4 := o3
    obtain ⟨hP0, hP⟩ := play_inv (n := N) (by omega) (by omega) xs hL.len
    replace o3 : Own ⟨h, []⟩ [I0, box lp (logC dp ⟨⟨0, 0, 0⟩, N, 0, [], false⟩ lv) 74, row lv 9 1 0 []] m4 := o3.sel [0, 1, 2] rfl
    clear o2
    refine Br.ff ?_
    refine CallVC.ret (play_spec ⟨h, []⟩ lp dp N 10 (newD N) I0 ⟨⟨0, 0, 0⟩, N, 0, [], false⟩ lv xs ov _ ht hI0 hO hL.ok hL.len hP0 o3) ?_
    show ∀ v h', PlayPost _ _ _ (playL (newP N) (xs.map opP)) v h' → _
    generalize playL (newP N) (xs.map opP) = p at *
    rintro _ m5 ⟨outv, I5, lv5, rfl, hI5, o5⟩
    replace o5 : Own ⟨h, []⟩ [I5, box lp (logC dp p.L lv5) 74, row lv5 9 1 p.L.list.length (strs p.L.list), row outv 9 1 p.out.length (strs p.out)] m5 := o5
    have hlk := hP.inv.inv.lok
    have hll := hlk.list
    rw [← hP.out] at o5
    obtain ⟨oa, oc, rfl⟩ := o5.rowIs 3 rfl
    obtain ⟨la, lc, rfl⟩ := o5.rowIs 2 rfl
    have hq0 : p.d.q = [] := hP.inv.inv.calm.q
    have hop2 := hP.inv.inv.open'
    have hpn := hP.n
    clear o3
    have hkN : k % N < N := Nat.mod_lt _ (by omega)
    have e1 : (k : Int) % (N : Int) = ((k % N : Nat) : Int) := rfl
    have e2 : (a : Int) % 64 = ((a % 64 : Nat) : Int) := rfl
    cases st with
    | true =>
      refine Br.tt ?_
      refine StillVC.run (StillVC.convI rfl int5 int3 ?_)
      refine Ar.i64 (by omega) (by omega) ?_
      refine StillVC.run (StillVC.remE rfl rfl (by omega) (by omega) ?_)
      rw [e1]
      refine CallVC.ret (stale_disk _ dp p.d I5 _ _ hI5 (o5.lend [0] [3] rfl)) ?_
      rintro _ m7 ⟨rfl, I7, hI7, oc1⟩
      have o7 : Own ⟨h, []⟩ [I7, row (.slice oa p.L.list.length oc) 9 1 p.L.list.length (strs p.L.list)] m7 := oc1.back
      clear oc1 o5
      refine CallVC.ret (open_spec _ dp _ I7 _ (by exact ht) hI7 (by rw [(stale_calm hP.inv.inv.calm hP.inv.inv.wf _).1.q]; simp) (o7.lend [0] [1] rfl)) ?_
      rcases stale_open hP.inv (k % N) (by omega) with ⟨L', hL1, hl'⟩ | hL1
      · rw [hL1]
        rintro _ m8 ⟨kp, kv, gv, rfl, oc1⟩
        have o8 : Own ⟨h, []⟩ [I7, box kp (logC dp L' kv) 74, row kv 9 1 L'.list.length (strs L'.list), row gv 9 1 L'.list.length (strs L'.list), row (.slice oa p.L.list.length oc) 9 1 p.L.list.length (strs p.L.list)] m8 := oc1.back
        clear oc1 o7
        rw [hl'] at o8
        refine Br.tt ?_
        refine Br.tt ?_
        refine CallVC.ret (same_spec p.L.list p.L.list _ _ _ (o8.rowArr 3 rfl) (o8.rowArr 4 rfl) (by omega)) ?_
        rw [decide_eq_true rfl]
        rintro _ m9 ⟨rfl, oc1⟩
        have o9 := (o8.ext' oc1).sel [] rfl
        clear oc1 o8
        refine Br.tt ?_
        refine RetVC.one rfl ?_
        exact ⟨rfl, o9⟩
      · rw [hL1]
        rintro _ m8 ⟨rfl, oc1⟩
        have o8 := oc1.back.sel [] rfl
        clear oc1 o7
        refine Br.tt ?_
        refine Br.ff ?_
        refine Br.tt ?_
        refine StillVC.run (StillVC.lenV rfl sl22 ?_)
        refine RetVC.one rfl ?_
        exact ⟨rfl, o8⟩
    | false =>
      refine Br.ff ?_
      refine StillVC.run (StillVC.convI rfl int5 int3 ?_)
      refine Ar.i64 (by omega) (by omega) ?_
      refine StillVC.run (StillVC.remE rfl rfl (by omega) (by omega) ?_)
      refine StillVC.run (StillVC.convI rfl int5 int3 ?_)
      refine Ar.i64 (by omega) (by omega) ?_
      refine StillVC.run (StillVC.remE rfl rfl (by omega) (by omega) ?_)
      refine StillVC.run (StillVC.convI rfl int5 int3 ?_)
      refine Ar.i64 (by omega) (by omega) ?_
      rw [e1, e2]
      refine CallVC.ret (rot_disk _ dp p.d I5 _ _ _ _ hI5 (o5.lend [0] [3] rfl)) ?_
      rintro _ m7 ⟨rfl, I7, hI7, oc1⟩
      have o7 : Own ⟨h, []⟩ [I7, row (.slice oa p.L.list.length oc) 9 1 p.L.list.length (strs p.L.list)] m7 := oc1.back
      clear oc1 o5
      refine CallVC.ret (open_spec _ dp _ I7 _ (by exact ht) hI7 (by rw [(rot_calm hP.inv.inv.calm hP.inv.inv.wf _ _ _).1.q]; simp) (o7.lend [0] [1] rfl)) ?_
      rcases rot_open hP.inv (k % N) (a % 64) m (by omega) (by omega) hm with ⟨L', hL1, hl'⟩ | hL1
      · rw [hL1]
        rintro _ m8 ⟨kp, kv, gv, rfl, oc1⟩
        have o8 : Own ⟨h, []⟩ [I7, box kp (logC dp L' kv) 74, row kv 9 1 L'.list.length (strs L'.list), row gv 9 1 L'.list.length (strs L'.list), row (.slice oa p.L.list.length oc) 9 1 p.L.list.length (strs p.L.list)] m8 := oc1.back
        clear oc1 o7
        rw [hl'] at o8
        refine Br.tt ?_
        refine Br.tt ?_
        refine CallVC.ret (same_spec p.L.list p.L.list _ _ _ (o8.rowArr 3 rfl) (o8.rowArr 4 rfl) (by omega)) ?_
        rw [decide_eq_true rfl]
        rintro _ m9 ⟨rfl, oc1⟩
        have o9 := (o8.ext' oc1).sel [] rfl
        clear oc1 o8
        refine Br.tt ?_
        refine RetVC.one rfl ?_
        exact ⟨rfl, o9⟩
      · rw [hL1]
        rintro _ m8 ⟨rfl, oc1⟩
        have o8 := oc1.back.sel [] rfl
        clear oc1 o7
        refine Br.tt ?_
        refine Br.ff ?_
        refine Br.tt ?_
        refine StillVC.run (StillVC.lenV rfl sl22 ?_)
        refine RetVC.one rfl ?_
        exact ⟨rfl, o8⟩

theorem damaged_law (n k a m : Int) (st : Bool) (xs : List OpW) (ov : Value) (h : Heap) (k0 : 0 ≤ k) (k1 : k ≤ 255) (a0 : 0 ≤ a) (a1 : a ≤ 255) (m0 : 0 ≤ m) (m1 : m ≤ 255) (ht : TabH h) (hO : Ops h ov xs) :
    SpecR Tryz.prog 4 [.int .i64 n, ov, .int .u8 k, .int .u8 a, .int .u8 m, .bool st] h fun r h' => r = .bool true ∧ Own h [] h' := by
  obtain ⟨k, rfl⟩ : ∃ x : Nat, k = x := ⟨k.toNat, by omega⟩
  obtain ⟨a, rfl⟩ : ∃ x : Nat, a = x := ⟨a.toNat, by omega⟩
  obtain ⟨m, rfl⟩ : ∃ x : Nat, m = x := ⟨m.toNat, by omega⟩
  exact damaged_spec n k a m st xs ov h (by omega) (by omega) (by omega) ht hO

end Go.Proofs.YtfjajkgfgigodaaGreatDoor
