/-
  The statement LogDurable.
-/
import Derived.Test.YtfjajkgfgigodaaGreatDoorStructs
import Derived.Test.YtfjajkgfgigodaaGreatDoorVcSep
import Derived.Test.YtfjajkgfgigodaaGreatDoorOps
import Derived.Test.YtfjajkgfgigodaaGreatDoorMOp
/- The statement LogDurable. -/
namespace Go.Proofs.YtfjajkgfgigodaaGreatDoor
open Go

theorem Ops.ext {h h' : Heap} {v : Value} {xs : List OpW} (o : Ops h v xs) (e : Ext h h') : Ops h' v xs :=
  ⟨o.arr.ext e, fun x hx => let k := o.ok x hx; ⟨k.arr.ext e, k.kind, k.body, k.list, k.after, k.writes, k.bytes⟩⟩

theorem open_small {n : Nat} (h : n < 6) : openL (newD n) = .error 1 := by
  unfold openL openF
  rw [if_neg (show ¬ (newD n).off = true from (by simp [newD])), if_pos (by simpa [newD] using h)]

theorem play_inv {n : Nat} (h6 : 6 ≤ n) (h4 : n ≤ 4000) (xs : List OpW) (hl : xs.length ≤ 16) : PInv n (10 + xs.length) (newP n) ∧ PInv n 10 (playL (newP n) (xs.map opP)) :=
  ⟨newP_inv h6 h4 (by omega), playL_inv _ (newP_inv h6 h4 (by simp; omega))⟩

set_option maxHeartbeats 8000000 in
set_option maxRecDepth 100000 in
theorem durable_spec (n w b : Int) (xs : List OpW) (ov : Value) (h : Heap) (ht : TabH h) (hO : Ops h ov xs) :
    SpecR Tryz.prog 6 [.int .i64 n, ov, .int .i64 w, .int .i64 b] h fun r h' => r = .bool true ∧ Own h [] h' := by
  refine Spec.enter Tryz.func6 rfl Tryz.ntmps6 (by kernel_rfl) ?_
  refine CallVC.ret (head_spec46 h ht) ?_
  rintro _ m1 ⟨rfl, oc1⟩
  refine CallVC.ret (light_spec n xs ov _ (hO.ext oc1.ext)) ?_
  rintro _ m2 ⟨⟨bl, rfl, hl⟩, oc2⟩
  have o1 : Own ⟨h, []⟩ [] m2 := oc1.ext' oc2
  clear oc1 oc2
  cases bl with
  | false =>
    refine Br.tt ?_
    refine RetVC.one rfl ?_
    exact ⟨rfl, o1⟩
  | true =>
    have hL := hl rfl
    have hn40 := hL.n
    refine Br.ff ?_
    by_cases hn : n < 1
    · refine CallVC.ret (new_none n _ (.inl hn)) ?_
      rintro _ m3 ⟨rfl, oc⟩
      have o2 := o1.ext' oc
      clear oc o1
      refine CallVC.ret (open_nil _) ?_
      rintro _ m4 ⟨rfl, oc⟩
      have o3 := o2.ext' oc
      clear oc o2
      have hd6 : decide (n < 6) = true := decide_eq_true (by omega)
      refine Br.tt ?_
      refine Br.tt ?_
      refine RunVC.eqP (by kernel_rfl) rfl rfl ?_
      refine Br.tt ?_
      refine RetVC.one rfl ?_
      exact ⟨congrArg Value.bool hd6, o3⟩
    obtain ⟨N, rfl⟩ : ∃ N : Nat, n = N := ⟨n.toNat, by omega⟩
    refine CallVC.ret (new_disk N _ (by omega) (by omega)) ?_
    rintro _ m3 ⟨dp, I0, rfl, hI0, oc⟩
    have o2 : Own ⟨h, []⟩ [I0] m3 := o1.call oc
    clear oc o1
    refine CallVC.ret (open_spec ⟨h, []⟩ dp (newD N) I0 _ ht hI0 (by simp [newD]) o2) ?_
    by_cases h6 : N < 6
    · rw [open_small h6]
      rintro _ m4 ⟨rfl, o3⟩
      clear o2
      have hd6 : decide ((N : Int) < 6) = true := decide_eq_true (by omega)
      refine Br.tt ?_
      refine Br.tt ?_
      refine RunVC.eqP (by kernel_rfl) rfl rfl ?_
      refine Br.tt ?_
      refine RetVC.one rfl ?_
      exact ⟨congrArg Value.bool hd6, o3.sel [] rfl⟩
    have hop := (new_dinv (n := N) (by omega) (by omega)).inv.open'
    obtain ⟨hP0, hP⟩ := play_inv (n := N) (by omega) (by omega) xs hL.len
    rw [hop]
    rintro _ m4 ⟨lp, lv, rv, rfl, o3⟩
    replace o3 : Own ⟨h, []⟩ [I0, box lp (logC dp ⟨⟨0, 0, 0⟩, N, 0, [], false⟩ lv) 74, row lv 9 1 0 [], row rv 9 1 0 []] m4 := o3
    replace o3 : Own ⟨h, []⟩ [I0, box lp (logC dp ⟨⟨0, 0, 0⟩, N, 0, [], false⟩ lv) 74, row lv 9 1 0 []] m4 := o3.sel [0, 1, 2] rfl
    clear o2
    refine Br.ff ?_
    refine CallVC.ret (play_spec ⟨h, []⟩ lp dp N 10 (newD N) I0 ⟨⟨0, 0, 0⟩, N, 0, [], false⟩ lv xs ov _ ht hI0 hO hL.ok hL.len hP0 o3) ?_
    show ∀ v h', PlayPost _ _ _ (playL (newP N) (xs.map opP)) v h' → _
    generalize playL (newP N) (xs.map opP) = p at *
    rintro _ m5 ⟨outv, I5, lv5, rfl, hI5, o5⟩
    replace o5 : Own ⟨h, []⟩ [I5, box lp (logC dp p.L lv5) 74, row lv5 9 1 p.L.list.length (strs p.L.list), row outv 9 1 p.out.length (strs p.out)] m5 := o5
    have hlk := hP.inv.inv.lok
    have hll := hlk.list
    rw [← hP.out] at o5
    obtain ⟨oa, oc, rfl⟩ := o5.rowIs 3 rfl
    obtain ⟨la, lc, rfl⟩ := o5.rowIs 2 rfl
    have hst := start_calm hP.inv.inv.calm w b
    have hq0 : p.d.q = [] := hP.inv.inv.calm.q
    have hop2 := hP.inv.inv.open'
    clear o3
    refine CallVC.ret (records_spec lp 0 p.L.list _ _ (o5.cellB 1 rfl 6) (o5.rowArr 2 rfl) (by omega)) ?_
    intro rv1 m6 oc1
    have o6 : Own ⟨h, []⟩ [I5, box lp (logC dp p.L (.slice la p.L.list.length lc)) 74, row (.slice la p.L.list.length lc) 9 1 p.L.list.length (strs p.L.list), row (.slice oa p.L.list.length oc) 9 1 p.L.list.length (strs p.L.list), row rv1 9 1 p.L.list.length (strs p.L.list)] m6 := o5.call oc1
    clear oc1 o5
    refine CallVC.ret (same_spec p.L.list p.L.list _ _ _ (o6.rowArr 4 rfl) (o6.rowArr 3 rfl) (by omega)) ?_
    rw [decide_eq_true rfl]
    rintro _ m7 ⟨rfl, oc1⟩
    have o7 : Own ⟨h, []⟩ [I5, row (.slice oa p.L.list.length oc) 9 1 p.L.list.length (strs p.L.list)] m7 := (o6.ext' oc1).sel [0, 3] rfl
    clear oc1 o6
    refine Br.ff ?_
    refine CallVC.ret (fail_disk _ dp p.d I5 w b _ hI5 (o7.lend [0] [1] rfl) (by rw [hq0]; simp)) ?_
    rintro _ m8 ⟨rfl, I8, hI8, oc1⟩
    have o8 : Own ⟨h, []⟩ [I8, row (.slice oa p.L.list.length oc) 9 1 p.L.list.length (strs p.L.list)] m8 := oc1.back
    clear oc1 o7
    refine CallVC.ret (start_disk _ dp _ I8 _ hI8 (o8.lend [0] [1] rfl)) ?_
    rw [hst]
    rintro _ m9 ⟨rfl, I9, hI9, oc1⟩
    have o9 : Own ⟨h, []⟩ [I9, row (.slice oa p.L.list.length oc) 9 1 p.L.list.length (strs p.L.list)] m9 := oc1.back
    clear oc1 o8
    refine CallVC.ret (open_spec _ dp p.d I9 _ (by exact ht) hI9 (by rw [hq0]; simp) (o9.lend [0] [1] rfl)) ?_
    rw [hop2]
    rintro _ m10 ⟨kp, kv, gv, rfl, oc1⟩
    have o10 : Own ⟨h, []⟩ [I9, box kp (logC dp p.L kv) 74, row kv 9 1 p.L.list.length (strs p.L.list), row gv 9 1 p.L.list.length (strs p.L.list), row (.slice oa p.L.list.length oc) 9 1 p.L.list.length (strs p.L.list)] m10 := oc1.back
    clear oc1 o9
    refine CallVC.ret (open_spec _ dp p.d I9 _ (by exact ht) hI9 (by rw [hq0]; simp) (o10.lend [0] [1, 2, 3, 4] rfl)) ?_
    rw [hop2]
    rintro _ m11 ⟨kp2, kv2, gv2, rfl, oc1⟩
    have o11 : Own ⟨h, []⟩ [I9, box kp2 (logC dp p.L kv2) 74, row kv2 9 1 p.L.list.length (strs p.L.list), row gv2 9 1 p.L.list.length (strs p.L.list), box kp (logC dp p.L kv) 74, row kv 9 1 p.L.list.length (strs p.L.list), row gv 9 1 p.L.list.length (strs p.L.list), row (.slice oa p.L.list.length oc) 9 1 p.L.list.length (strs p.L.list)] m11 := oc1.back
    clear oc1 o10
    refine Br.tt ?_
    refine Br.tt ?_
    refine Br.tt ?_
    refine CallVC.ret (same_spec p.L.list p.L.list _ _ _ (o11.rowArr 6 rfl) (o11.rowArr 7 rfl) (by omega)) ?_
    rw [decide_eq_true rfl]
    rintro _ m12 ⟨rfl, oc1⟩
    have o12 := o11.ext' oc1
    clear oc1 o11
    refine Br.tt ?_
    refine CallVC.ret (same_spec p.L.list p.L.list _ _ _ (o12.rowArr 3 rfl) (o12.rowArr 7 rfl) (by omega)) ?_
    rw [decide_eq_true rfl]
    rintro _ m13 ⟨rfl, oc1⟩
    have o13 := o12.ext' oc1
    clear oc1 o12
    refine Br.tt ?_
    refine CallVC.ret (records_spec kp 0 p.L.list _ _ (o13.cellB 4 rfl 6) (o13.rowArr 5 rfl) (by omega)) ?_
    intro rv2 m14 oc1
    have o14 : Own ⟨h, []⟩ [I9, row (.slice oa p.L.list.length oc) 9 1 p.L.list.length (strs p.L.list), row rv2 9 1 p.L.list.length (strs p.L.list)] m14 := (o13.call oc1).sel [0, 7, 8] rfl
    clear oc1 o13
    refine CallVC.ret (same_spec p.L.list p.L.list _ _ _ (o14.rowArr 2 rfl) (o14.rowArr 1 rfl) (by omega)) ?_
    rw [decide_eq_true rfl]
    rintro _ m15 ⟨rfl, oc1⟩
    have o15 := (o14.ext' oc1).sel [] rfl
    clear oc1 o14
    refine RetVC.one rfl ?_
    exact ⟨rfl, o15⟩

end Go.Proofs.YtfjajkgfgigodaaGreatDoor
