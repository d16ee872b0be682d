/-
  The statement LogForeign.
-/
import Derived.Test.YtfjajkgfgigodaaGreatDoorStructs
import Derived.Test.YtfjajkgfgigodaaGreatDoorMEx
/- The statement LogForeign. -/
namespace Go.Proofs.YtfjajkgfgigodaaGreatDoor
open Go

theorem zero_spec (h : Heap) : SpecR Tryz.prog 13 [] h fun v h' => v = .string ⟨⟨zS⟩⟩ ∧ Own h [] h' := by
  refine Spec.enter Tryz.func13 rfl Tryz.ntmps13 (by kernel_rfl) ?_
  have o0 := Own.refl h
  refine LoopVC.intro [1, 2, 3, 4, 5, 6, 7, 8] [1, 2] (fun vs hh => ∃ (i : Nat), i ≤ 64 ∧ vs = [.string ⟨⟨List.replicate i 0⟩⟩, .int .i64 i] ∧ Own h [] hh) (fun vs _ => match vs with | [_, .int _ i] => 64 - i.toNat | _ => 0) ?_ ?_
  · exact ⟨0, by omega, rfl, o0⟩
  · rintro vs junk hh ⟨i, hi, rfl, o⟩
    have hl : (List.replicate i (0 : UInt8)).length = i := by simp
    by_cases hlt : i < 64
    · refine Br.dec (fun c40 => ?_) (fun hc => absurd (by omega) hc)
      refine StillVC.run (StillVC.strAdd rfl rfl (by first | omega | (simp; omega)) ?_)
      refine Ar.i64 (by omega) (by omega) ?_
      refine ⟨rfl, ?_⟩
      have e : List.replicate i (0 : UInt8) ++ [0] = List.replicate (i + 1) 0 := by rw [List.replicate_succ']
      rw [e]
      exact ⟨⟨i + 1, by omega, rfl, o⟩, by simp only; omega⟩
    · obtain rfl : i = 64 := by omega
      refine Br.ff ?_
      refine RetVC.one rfl ?_
      exact ⟨rfl, o⟩

theorem open_lok {d : Dk} {L : Lg} (w : DOK d) (h : openL d = .ok L) : LOK L ∧ L.n = d.st.length ∧ L.broken = false := by
  unfold openL at h
  split at h
  · cases h
  · have h6 : 6 ≤ d.st.length := by
      unfold openF at h
      split at h
      · cases h
      · omega
    obtain ⟨h1, hb, hp, hl, _⟩ := (open_iff h6 w.le).1 h
    obtain ⟨hf, hl2, ha⟩ := pick_fits hp
    exact ⟨⟨by omega, by rw [h1]; exact w.le, by omega, hf, hl, by rw [h1]; exact hl2⟩, h1, hb⟩

theorem LOK.shorts {L : Lg} (h : LOK L) : (partsL L.list).length ≤ 2000 ∧ ∀ r ∈ L.list, r.length ≤ 80000 := by
  have h1 := h.len
  have h2 := h.half
  have h3 := h.n4
  have h4 : (partsL L.list).length ≤ 2000 := by unfold halfN at h2; omega
  exact ⟨h4, fun r hr => by have := rec_short hr; omega⟩

theorem rew_q {L L' : Lg} {d d1 : Dk} {rs : List (List UInt8)} (h : rewL L d rs = (0, L', d1)) : d1.q = [] := by
  rw [rewL_eq] at h
  split at h
  · simp at h
  · split at h
    · simp at h
    · split at h
      · simp at h
      · unfold attR at h
        split at h
        · simp at h
        · split at h
          · rename_i h1
            simp only [Prod.mk.injEq] at h
            exact absurd h.1 h1
          · rename_i h1
            simp only [Prod.mk.injEq] at h
            rw [← h.2.2]
            exact runD_q' (b := blanks (List.range' (startN L.n (L.s.gen + 1)) (partsL rs).length)) (Decidable.not_not.1 h1)

set_option maxHeartbeats 8000000 in
set_option maxRecDepth 100000 in
theorem foreign_spec (xs : List (List UInt8)) (v : Value) (h : Heap) (ht : TabH h) (hA : Arr h v (strs xs)) : SpecR Tryz.prog 3 [v] h fun r h' => r = .bool true ∧ Own h [] h' := by
  have o0 := Own.refl h
  have hsl : (strs xs).length = xs.length := by simp
  have hA' := hA
  obtain ⟨a, c, hv, hc, hr⟩ := hA
  rw [hsl] at hv
  subst hv
  clear hc hr
  refine Spec.enter Tryz.func3 rfl Tryz.ntmps3 (by kernel_rfl) ?_
  refine CallVC.ret (head_spec46 h ht) ?_
  rintro _ m1 ⟨rfl, oc⟩
  by_cases h6 : xs.length < 6
  · refine StillVC.run (StillVC.lenV rfl sl22 ?_)
    refine Br.dec (fun c41 => ?_) (fun hc => absurd (by omega) hc)
    refine Br.tt ?_
    refine RetVC.one rfl ?_
    exact ⟨rfl, oc⟩
  by_cases h40 : 40 < xs.length
  · refine StillVC.run (StillVC.lenV rfl sl22 ?_)
    refine Br.dec (fun hc => absurd hc (by omega)) (fun c41 => ?_)
    refine StillVC.run (StillVC.lenV rfl sl22 ?_)
    refine Br.dec (fun c43 => ?_) (fun hc => absurd (by omega) hc)
    refine RetVC.one rfl ?_
    exact ⟨rfl, oc⟩
  refine StillVC.run (StillVC.lenV rfl sl22 ?_)
  refine Br.dec (fun hc => absurd hc (by omega)) (fun c41 => ?_)
  refine StillVC.run (StillVC.lenV rfl sl22 ?_)
  refine Br.dec (fun hc => absurd hc (by omega)) (fun c43 => ?_)
  refine StillVC.run (StillVC.lenV rfl sl22 ?_)
  refine CallVC.ret (new_disk xs.length _ (by omega) (by omega)) ?_
  rintro _ m2 ⟨dp, I0, rfl, hI0, oc2⟩
  have o2 : Own ⟨h, []⟩ [I0] m2 := Own.call oc oc2
  clear oc oc2
  refine LoopVC.intro [2, 5, 6, 27, 28, 29, 30, 31, 32, 33, 34, 35, 36, 37, 38, 39, 40, 41, 42, 43, 44, 45, 46, 47, 48, 49, 50, 51] [5] (fun vs hh => ∃ (i : Nat) (d : Dk) (I : Item), i ≤ xs.length ∧ vs = [.int .i64 i] ∧ IsDisk dp d I ∧ d.off = false ∧ d.arm = none ∧ d.st.length = xs.length ∧ d.q.length = i ∧ Own ⟨h, []⟩ [I] hh) (fun vs _ => match vs with | [.int _ i] => xs.length - i.toNat | _ => 0) ?_ ?_
  · exact ⟨0, newD xs.length, I0, by omega, rfl, hI0, rfl, rfl, by simp [newD], rfl, o2⟩
  · clear o2
    rintro vs junk hh ⟨i, d, I, hi, rfl, hI, hoff, harm, hst, hql, o⟩
    have aX := hA'.ext o.ext
    by_cases hlt : i < xs.length
    · obtain ⟨x, hx⟩ := getx hlt
      by_cases hxl : 1000 < x.length
      · refine StillVC.run (StillVC.lenV rfl sl22 ?_)
        refine Br.dec (fun c81 => ?_) (fun hc => absurd (by omega) hc)
        refine StillVC.run (StillVC.idx sl22 ty9 aX rfl (by omega) (by omega) ?_)
        refine StillVC.run (StillVC.loadM aX ty9 rfl (by first | assumption | rfl) ?_)
        refine StillVC.run (StillVC.lenS rfl str9 ?_)
        refine Br.dec (fun c85 => ?_) (fun hc => absurd (by omega) hc)
        refine RetVC.one rfl ?_
        exact ⟨rfl, o.sel [] rfl⟩
      · refine StillVC.run (StillVC.lenV rfl sl22 ?_)
        refine Br.dec (fun c81 => ?_) (fun hc => absurd (by omega) hc)
        refine StillVC.run (StillVC.idx sl22 ty9 aX rfl (by omega) (by omega) ?_)
        refine StillVC.run (StillVC.loadM aX ty9 rfl (by first | assumption | rfl) ?_)
        refine StillVC.run (StillVC.lenS rfl str9 ?_)
        refine Br.dec (fun hc => absurd hc (by omega)) (fun c85 => ?_)
        refine DrawVC.intro [0, 1, 2, 5, 6] [3] [] [0, 1, 2, 3, 4, 5, 6] mixed (by kernel_rfl) rfl (fun _ _ _ _ h => h) ?_
        refine StillVC.idx sl22 ty9 aX rfl (by omega) (by omega) ?_
        refine StillVC.loadM aX ty9 rfl (by first | assumption | rfl) ?_
        refine CallVC.ret (zero_spec _) ?_
        rintro _ m3 ⟨rfl, oc⟩
        have hzl : (zS : List UInt8).length = 64 := by simp
        have hxz : (x ++ zS).length = x.length + 64 := by rw [List.length_append, hzl]
        (refine And.intro oc.ext ?_; have o100 := Own.call o oc; simp only [List.cons_append, List.nil_append] at o100; clear oc)
        refine StillVC.strAdd rfl rfl (by first | omega | (simp; omega)) ?_
        refine StillVC.run (StillVC.sliceS str9 rfl rfl ⟨_, rfl⟩ (by omega) (by omega) (by omega) ?_)
        have hw : d.write (i : Int) ((x ++ zS).take 64) = (0, { d with q := d.q ++ [(i, (x ++ zS).take 64)] }) := by
          unfold Dk.write
          rw [if_neg (by rw [hoff]; decide), if_neg (by rw [hst, List.length_take, List.length_append, hzl]; omega)]
          unfold Dk.count
          rw [harm]
          rfl
        have hx2 : ((x ++ zS).take 64).length ≤ 64 := by rw [List.length_take]; omega
        refine CallVC.ret (write_disk ⟨h, []⟩ dp d I i ((x ++ zS).take 64) _ hI (by assumption) (by omega) (by omega)) ?_
        rw [hw]
        rintro _ m4 ⟨rfl, I2, hI2, o4⟩
        refine Br.ndec (fun hc => absurd (by first | omega | assumption | decide | exact rfl) hc) (fun c120 => ?_)
        refine Ar.i64 (by omega) (by omega) ?_
        refine ⟨rfl, ?_⟩
        exact ⟨⟨i + 1, _, I2, by omega, rfl, hI2, hoff, harm, hst, by simp [hql], o4⟩, by simp only; omega⟩
    · obtain rfl : i = xs.length := by omega
      have hd := hI.1
      have h6 : 6 ≤ d.st.length := by omega
      have hq : d.q.length ≤ 1000 := by omega
      refine StillVC.run (StillVC.lenV rfl sl22 ?_)
      refine Br.dec (fun hc => absurd hc (by omega)) (fun c141 => ?_)
      refine CallVC.ret (open_spec ⟨h, []⟩ dp d I _ ht hI hq o) ?_
      have hopn : openL d = openF d.look d.st.length := by unfold openL; rw [if_neg (by rw [hoff]; decide)]
      rcases open_or (f := d.look) h6 with ⟨L, hL⟩ | hL
      · have hL' : openL d = .ok L := hopn.trans hL
        obtain ⟨hlok, hLn, hbk⟩ := open_lok hd hL'
        obtain ⟨hp1, hp2⟩ := hlok.shorts
        have hll := hlok.list
        have hfor := foreign hoff harm hd.wf hd.q h6 (by omega) hL'
        rw [hL']
        rintro _ m5 ⟨lp, lv, rv, rfl, o5⟩
        have o5 : Own ⟨h, []⟩ [I, box lp (logC dp L lv) 74, row lv 9 1 L.list.length (strs L.list), row rv 9 1 L.list.length (strs L.list)] m5 := o5
        obtain ⟨ra, rc, rfl⟩ := o5.rowIs 3 rfl
        clear o
        refine Br.ff ?_
        refine CallVC.ret (rewrite_spec ⟨h, []⟩ lp dp d I _ L lv _ L.list _ ht hI hq hlok (by omega) (by omega) (fun r hr => by have := hp2 r hr; omega) RD.row o5) ?_
        rcases hfor with hf | ⟨L', d1, hf, L2, hL2, hl2⟩
        · rw [hf]
          rintro _ m6 ⟨rfl, I6, lv6, hI6, o6⟩
          have o6 : Own ⟨h, []⟩ [I6, box lp (logC dp L lv6) 74, row lv6 9 1 L.list.length (strs L.list), row (.slice ra L.list.length rc) 9 1 L.list.length (strs L.list)] m6 := o6
          clear o5
          refine CallVC.ret (open_spec _ dp d I6 _ (by exact ht) hI6 hq (o6.lend [0] [1, 2, 3] rfl)) ?_
          rw [hL']
          rintro _ m7 ⟨lp2, lv7, xv, rfl, oc⟩
          have o7 : Own ⟨h, []⟩ [I6, box lp2 (logC dp L lv7) 74, row lv7 9 1 L.list.length (strs L.list), row xv 9 1 L.list.length (strs L.list), box lp (logC dp L lv6) 74, row lv6 9 1 L.list.length (strs L.list), row (.slice ra L.list.length rc) 9 1 L.list.length (strs L.list)] m7 := oc.back
          clear oc o6
          refine Br.tt ?_
          refine Br.dec (fun hc => absurd hc (by omega)) (fun c200 => ?_)
          refine Br.dec (fun c201 => ?_) (fun hc => absurd (by omega) hc)
          refine Br.tt ?_
          refine CallVC.ret (same_spec L.list L.list _ _ _ (o7.rowArr 6 rfl) (o7.rowArr 3 rfl) (by omega)) ?_
          rw [decide_eq_true rfl]
          rintro _ m8 ⟨rfl, oc⟩
          have o8 := (o7.ext' oc).sel [] rfl
          clear oc o7
          refine RetVC.one rfl ?_
          exact ⟨rfl, o8⟩
        · rw [hf]
          rintro _ m6 ⟨rfl, I6, lv6, hI6, o6⟩
          have o6 : Own ⟨h, []⟩ [I6, box lp (logC dp L' lv6) 74, row lv6 9 1 L'.list.length (strs L'.list), row (.slice ra L.list.length rc) 9 1 L.list.length (strs L.list)] m6 := o6
          clear o5
          have hq1 := rew_q hf
          refine CallVC.ret (open_spec _ dp d1 I6 _ (by exact ht) hI6 (by rw [hq1]; simp) (o6.lend [0] [1, 2, 3] rfl)) ?_
          rw [hL2]
          rintro _ m7 ⟨lp2, lv7, xv, rfl, oc⟩
          have o7 : Own ⟨h, []⟩ [I6, box lp2 (logC dp L2 lv7) 74, row lv7 9 1 L2.list.length (strs L2.list), row xv 9 1 L2.list.length (strs L2.list), box lp (logC dp L' lv6) 74, row lv6 9 1 L'.list.length (strs L'.list), row (.slice ra L.list.length rc) 9 1 L.list.length (strs L.list)] m7 := oc.back
          clear oc o6
          rw [hl2] at o7
          refine Br.tt ?_
          refine Br.dec (fun c200 => ?_) (fun hc => absurd (by omega) hc)
          refine Br.tt ?_
          refine CallVC.ret (same_spec L.list L.list _ _ _ (o7.rowArr 6 rfl) (o7.rowArr 3 rfl) (by omega)) ?_
          rw [decide_eq_true rfl]
          rintro _ m8 ⟨rfl, oc⟩
          have o8 := (o7.ext' oc).sel [] rfl
          clear oc o7
          refine RetVC.one rfl ?_
          exact ⟨rfl, o8⟩
      · have hL' : openL d = .error 20 := hopn.trans hL
        rw [hL']
        rintro _ m5 ⟨rfl, o5⟩
        clear o
        refine Br.tt ?_
        refine Br.tt ?_
        refine Br.tt ?_
        refine StillVC.run (StillVC.lenV rfl sl22 ?_)
        refine RetVC.one rfl ?_
        exact ⟨rfl, o5.sel [] rfl⟩

end Go.Proofs.YtfjajkgfgigodaaGreatDoor
