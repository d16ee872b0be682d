/-
  The statement LogBroken.
-/
import Derived.Test.YtfjajkgfgigodaaGreatDoorStructs
import Derived.Test.YtfjajkgfgigodaaGreatDoorVcSep
import Derived.Test.YtfjajkgfgigodaaGreatDoorOps
import Derived.Test.YtfjajkgfgigodaaGreatDoorMDu
/- The statement LogBroken. -/
namespace Go.Proofs.YtfjajkgfgigodaaGreatDoor
open Go

theorem same_true (a b : List (List UInt8)) (va vb : Value) (h : Heap) (a0 : Arr h va (strs a)) (b0 : Arr h vb (strs b)) (ha : a.length ≤ 1000000000) (e : a = b) :
    SpecR Tryz.prog 17 [va, vb] h fun r h' => r = .bool true ∧ Own h [] h' := by
  refine (same_spec a b va vb h a0 b0 ha).mono ?_
  rintro r h' ⟨rfl, o⟩
  exact ⟨congrArg Value.bool (decide_eq_true e), o⟩

set_option maxHeartbeats 3000000 in
set_option maxRecDepth 100000 in
theorem broken_spec (n w b : Int) (xs : List OpW) (ov : Value) (h : Heap) (ht : TabH h) (hO : Ops h ov xs) :
    SpecR Tryz.prog 8 [.int .i64 n, ov, .int .i64 w, .int .i64 b] h fun r h' => r = .bool true ∧ Own h [] h' := by
  refine Spec.enter Tryz.func8 rfl Tryz.ntmps8 (by kernel_rfl) ?_
  refine CallVC.ret (head_spec46 h ht) ?_
  rintro _ m1 ⟨rfl, oc1⟩
  refine CallVC.ret (light_spec n xs ov _ (hO.ext oc1.ext)) ?_
  rintro _ m2 ⟨⟨bl, rfl, hl⟩, oc2⟩
  have o1 : Own ⟨h, []⟩ [] m2 := oc1.ext' oc2
  clear oc1 oc2
  cases bl with
  | false =>
    refine Br.tt ?_
    refine RetVC.one rfl ?_
    exact ⟨rfl, o1⟩
  | true =>
    have hL := hl rfl
    have hn40 := hL.n
    refine Br.ff ?_
    by_cases hn : n < 1
    · refine CallVC.ret (new_none n _ (.inl hn)) ?_
      rintro _ m3 ⟨rfl, oc⟩
      have o2 := o1.ext' oc
      clear oc o1
      refine CallVC.ret (open_nil _) ?_
      rintro _ m4 ⟨rfl, oc⟩
      have o3 := o2.ext' oc
      clear oc o2
      refine Br.tt ?_
      refine RetVC.one rfl ?_
      exact ⟨rfl, o3⟩
    obtain ⟨N, rfl⟩ : ∃ N : Nat, n = N := ⟨n.toNat, by omega⟩
    refine CallVC.ret (new_disk N _ (by omega) (by omega)) ?_
    rintro _ m3 ⟨dp, I0, rfl, hI0, oc⟩
    have o2 : Own ⟨h, []⟩ [I0] m3 := o1.call oc
    clear oc o1
    refine CallVC.ret (open_spec ⟨h, []⟩ dp (newD N) I0 _ ht hI0 (by simp [newD]) o2) ?_
    by_cases h6 : N < 6
    · rw [open_small h6]
      rintro _ m4 ⟨rfl, o3⟩
      clear o2
      refine Br.tt ?_
      refine RetVC.one rfl ?_
      exact ⟨rfl, o3.sel [] rfl⟩
    have hop := (new_dinv (n := N) (by omega) (by omega)).inv.open'
    rw [hop]
    rintro _ m4 ⟨lp, lv, rv, rfl, o3⟩
    replace o3 : Own ⟨h, []⟩ [I0, box lp (logC dp ⟨⟨0, 0, 0⟩, N, 0, [], false⟩ lv) 74, row lv 9 1 0 [], row rv 9 1 0 []] m4 := o3
    obtain ⟨hP0, hP⟩ := play_inv (n := N) (by omega) (by omega) xs hL.len
    replace o3 : Own ⟨h, []⟩ [I0, box lp (logC dp ⟨⟨0, 0, 0⟩, N, 0, [], false⟩ lv) 74, row lv 9 1 0 []] m4 := o3.sel [0, 1, 2] rfl
    clear o2
    refine Br.ff ?_
    refine CallVC.ret (play_spec ⟨h, []⟩ lp dp N 10 (newD N) I0 ⟨⟨0, 0, 0⟩, N, 0, [], false⟩ lv xs ov _ ht hI0 hO hL.ok hL.len hP0 o3) ?_
    show ∀ v h', PlayPost _ _ _ (playL (newP N) (xs.map opP)) v h' → _
    generalize playL (newP N) (xs.map opP) = p at *
    rintro _ m5 ⟨outv, I5, lv5, rfl, hI5, o5⟩
    replace o5 : Own ⟨h, []⟩ [I5, box lp (logC dp p.L lv5) 74, row lv5 9 1 p.L.list.length (strs p.L.list), row outv 9 1 p.out.length (strs p.out)] m5 := o5
    have hlk := hP.inv.inv.lok
    have hll := hlk.list
    rw [← hP.out] at o5
    obtain ⟨oa, oc, rfl⟩ := o5.rowIs 3 rfl
    obtain ⟨la, lc, rfl⟩ := o5.rowIs 2 rfl
    have hq0 : p.d.q = [] := hP.inv.inv.calm.q
    have hop2 := hP.inv.inv.open'
    have hpn := hP.n
    clear o3
    have hn1 := hP.num
    have hn2 := hP.gen
    have hn3 := hP.k
    have hst := start_calm hP.inv.inv.calm w b
    obtain ⟨Lb, hro, hbb, hbl, hbn, hbs, hlb⟩ : ∃ Lb : Lg, rewL p.L (p.d.fail w b) [] = (19, Lb, p.d.fail w b) ∧ Lb.broken = true ∧ Lb.list = p.L.list ∧ Lb.n = p.L.n ∧ Lb.s = p.L.s ∧ LOK Lb := ⟨_, rew_off hP.inv.inv (by omega) (by omega) w b, rfl, rfl, rfl, rfl, ⟨hlk.n6, hlk.n4, hlk.at2, hlk.fits, hlk.len, hlk.half⟩⟩
    have hbs1 : Lb.s.num = p.L.s.num := by rw [hbs]
    have hbs2 : Lb.s.len = p.L.s.len := by rw [hbs]
    have hbl2 : Lb.list.length = p.L.list.length := by rw [hbl]
    have hqf : (p.d.fail w b).q = [] := by rw [fail_calm hP.inv.inv.calm]; exact hq0
    have hoff : (p.d.fail w b).off = true := by rw [fail_calm hP.inv.inv.calm]
    have h1 := hlk.n6
    have h2 := hlk.n4
    have h3 := hlk.half
    have h4 : halfN p.L.n ≤ 2000 := by unfold halfN; omega
    refine CallVC.ret (room_spec lp p.L.n p.L.s.len _ (o5.cellB 1 rfl 2) (o5.cellB 1 rfl 4) (by omega) (by omega) (by omega)) ?_
    rintro _ m6 ⟨rfl, oc1⟩
    have o6 := o5.ext' oc1
    clear oc1 o5
    refine CallVC.ret (fail_disk _ dp p.d I5 w b _ hI5 (o6.lend [0] [1, 2, 3] rfl) (by rw [hq0]; simp)) ?_
    rintro _ m7 ⟨rfl, I7, hI7, oc1⟩
    have o7 : Own ⟨h, []⟩ [I7, box lp (logC dp p.L (.slice la p.L.list.length lc)) 74, row (.slice la p.L.list.length lc) 9 1 p.L.list.length (strs p.L.list), row (.slice oa p.L.list.length oc) 9 1 p.L.list.length (strs p.L.list)] m7 := oc1.back
    clear oc1 o6
    have o7e : Own ⟨h, []⟩ [emptyI, I7, box lp (logC dp p.L (.slice la p.L.list.length lc)) 74, row (.slice la p.L.list.length lc) 9 1 p.L.list.length (strs p.L.list), row (.slice oa p.L.list.length oc) 9 1 p.L.list.length (strs p.L.list)] m7 := o7.emptyI'
    refine CallVC.ret (rewrite_spec ⟨h, [row (.slice oa p.L.list.length oc) 9 1 p.L.list.length (strs p.L.list)] ++ []⟩ lp dp (p.d.fail w b) I7 emptyI p.L (.slice la p.L.list.length lc) (.slice none 0 0) [] _ (by exact ht) hI7 (by rw [hqf]; simp) hlk (by simp) (by simp [partsL]) (by simp) (RD.base (Arr.nil _)) (o7e.lend [1, 2, 3, 0] [4] rfl)) ?_
    rw [hro]
    rintro _ m8 ⟨rfl, I8, lv8, hI8, oc1⟩
    have o8e : Own ⟨h, []⟩ [I8, box lp (logC dp Lb lv8) 74, row lv8 9 1 Lb.list.length (strs Lb.list), emptyI, row (.slice oa p.L.list.length oc) 9 1 p.L.list.length (strs p.L.list)] m8 := Own.back (B := ⟨h, []⟩) oc1
    have o8 : Own ⟨h, []⟩ [I8, box lp (logC dp Lb lv8) 74, row lv8 9 1 Lb.list.length (strs Lb.list), row (.slice oa p.L.list.length oc) 9 1 p.L.list.length (strs p.L.list)] m8 := o8e.sel [0, 1, 2, 4] rfl
    clear oc1 o7 o7e o8e
    refine CallVC.ret (open_spec _ dp _ I8 _ (by exact ht) hI8 (by simp only [hqf]; simp) (o8.lend [0] [1, 2, 3] rfl)) ?_
    rw [open_off hoff]
    rintro _ m9 ⟨rfl, oc1⟩
    have o9 : Own ⟨h, []⟩ [I8, box lp (logC dp Lb lv8) 74, row lv8 9 1 Lb.list.length (strs Lb.list), row (.slice oa p.L.list.length oc) 9 1 p.L.list.length (strs p.L.list)] m9 := oc1.back
    clear oc1 o8
    refine CallVC.ret (start_disk _ dp _ I8 _ hI8 (o9.lend [0] [1, 2, 3] rfl)) ?_
    rw [hst]
    rintro _ m10 ⟨rfl, I10, hI10, oc1⟩
    have o10 : Own ⟨h, []⟩ [I10, box lp (logC dp Lb lv8) 74, row lv8 9 1 Lb.list.length (strs Lb.list), row (.slice oa p.L.list.length oc) 9 1 p.L.list.length (strs p.L.list)] m10 := oc1.back
    clear oc1 o9
    refine CallVC.ret (append_spec _ lp dp p.d I10 Lb lv8 [97] _ (by exact ht) hI10 (by rw [hq0]; simp) hlb (by omega) (by simp) (o10.lend [0, 1, 2] [3] rfl)) ?_
    rw [app_broken hbb]
    rintro _ m11 ⟨rfl, I11, lv11, hI11, oc1⟩
    have o11 : Own ⟨h, []⟩ [I11, box lp (logC dp Lb lv11) 74, row lv11 9 1 Lb.list.length (strs Lb.list), row (.slice oa p.L.list.length oc) 9 1 p.L.list.length (strs p.L.list)] m11 := oc1.back
    clear oc1 o10
    have o11e : Own ⟨h, []⟩ [emptyI, I11, box lp (logC dp Lb lv11) 74, row lv11 9 1 Lb.list.length (strs Lb.list), row (.slice oa p.L.list.length oc) 9 1 p.L.list.length (strs p.L.list)] m11 := o11.emptyI'
    refine CallVC.ret (rewrite_spec ⟨h, [row (.slice oa p.L.list.length oc) 9 1 p.L.list.length (strs p.L.list)] ++ []⟩ lp dp p.d I11 emptyI Lb lv11 (.slice none 0 0) [] _ (by exact ht) hI11 (by rw [hq0]; simp) hlb (by simp) (by simp [partsL]) (by simp) (RD.base (Arr.nil _)) (o11e.lend [1, 2, 3, 0] [4] rfl)) ?_
    rw [rew_broken hbb]
    rintro _ m12 ⟨rfl, I12, lv12, hI12, oc1⟩
    have o12e : Own ⟨h, []⟩ [I12, box lp (logC dp Lb lv12) 74, row lv12 9 1 Lb.list.length (strs Lb.list), emptyI, row (.slice oa p.L.list.length oc) 9 1 p.L.list.length (strs p.L.list)] m12 := Own.back (B := ⟨h, []⟩) oc1
    have o12 : Own ⟨h, []⟩ [I12, box lp (logC dp Lb lv12) 74, row lv12 9 1 Lb.list.length (strs Lb.list), row (.slice oa p.L.list.length oc) 9 1 p.L.list.length (strs p.L.list)] m12 := o12e.sel [0, 1, 2, 4] rfl
    clear oc1 o11 o11e o12e
    refine CallVC.ret (open_spec _ dp p.d I12 _ (by exact ht) hI12 (by rw [hq0]; simp) (o12.lend [0] [1, 2, 3] rfl)) ?_
    rw [hop2]
    rintro _ m13 ⟨kp, kv, gv, rfl, oc1⟩
    have o13 : Own ⟨h, []⟩ [I12, box kp (logC dp p.L kv) 74, row kv 9 1 p.L.list.length (strs p.L.list), row gv 9 1 p.L.list.length (strs p.L.list), box lp (logC dp Lb lv12) 74, row lv12 9 1 Lb.list.length (strs Lb.list), row (.slice oa p.L.list.length oc) 9 1 p.L.list.length (strs p.L.list)] m13 := oc1.back
    clear oc1 o12
    refine Br.tt ?_
    refine Br.dec (fun c260 => ?_) (fun hc => absurd (by omega) hc)
    refine Br.tt ?_
    refine Br.dec (fun c261 => ?_) (fun hc => absurd (by omega) hc)
    refine Br.dec (fun c262 => ?_) (fun hc => absurd (by omega) hc)
    refine CallVC.ret (records_spec lp 0 Lb.list _ _ (o13.cellB 4 rfl 6) (o13.rowArr 5 rfl) (by omega)) ?_
    intro rv2 m14 oc1
    have o14 : Own ⟨h, []⟩ [I12, row gv 9 1 p.L.list.length (strs p.L.list), box lp (logC dp Lb lv12) 74, row lv12 9 1 Lb.list.length (strs Lb.list), row (.slice oa p.L.list.length oc) 9 1 p.L.list.length (strs p.L.list), row rv2 9 1 Lb.list.length (strs Lb.list)] m14 := (o13.call oc1).sel [0, 3, 4, 5, 6, 7] rfl
    clear oc1 o13
    refine CallVC.ret (same_true Lb.list p.L.list _ _ _ (o14.rowArr 5 rfl) (o14.rowArr 4 rfl) (by omega) hbl) ?_
    rintro _ m15 ⟨rfl, oc1⟩
    have o15 := o14.ext' oc1
    clear oc1 o14
    refine Br.tt ?_
    refine CallVC.ret (room_spec lp Lb.n Lb.s.len _ (o15.cellB 2 rfl 2) (o15.cellB 2 rfl 4) (by omega) (by omega) (by omega)) ?_
    rw [hbn, hbs2]
    rintro _ m16 ⟨rfl, oc1⟩
    have o16 := o15.ext' oc1
    clear oc1 o15
    refine Br.dec (fun c320 => ?_) (fun hc => absurd (by omega) hc)
    refine Br.tt ?_
    refine CallVC.ret (same_true p.L.list p.L.list _ _ _ (o16.rowArr 1 rfl) (o16.rowArr 4 rfl) (by omega) rfl) ?_
    rintro _ m17 ⟨rfl, oc1⟩
    have o17 := (o16.ext' oc1).sel [] rfl
    clear oc1 o16
    refine RetVC.one rfl ?_
    exact ⟨rfl, o17⟩

end Go.Proofs.YtfjajkgfgigodaaGreatDoor
