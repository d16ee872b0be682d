/-
  The statements of the log: the examples with known results, in plain Lean. The statements of the log: the examples with known results, walked.
-/
import Derived.Test.YtfjajkgfgigodaaGreatDoorStructs
import Derived.Test.YtfjajkgfgigodaaGreatDoorMPl
import Derived.Test.YtfjajkgfgigodaaGreatDoorMLb
import Derived.Test.YtfjajkgfgigodaaGreatDoorMLc
import Derived.Test.YtfjajkgfgigodaaGreatDoorMSe
/- The statements of the log: the examples with known results, in plain Lean. -/
namespace Go.Proofs.YtfjajkgfgigodaaGreatDoor
open Go

def xS (n : Nat) : List UInt8 := List.replicate n 120

theorem split_one {t : List UInt8} (h : (wholeL t).length ≤ 40) : (splitL t).length = 1 := by unfold splitL; rw [chunks_le h]; rfl

theorem whole_len (t : List UInt8) : (wholeL t).length = (Lib.decDigits t.length).length + 1 + t.length := by simp [wholeL]; omega

theorem split_a : (splitL [97]).length = 1 := split_one (by rw [whole_len]; simp [Lib.decDigits_one])
theorem split_b : (splitL [98]).length = 1 := split_one (by rw [whole_len]; simp [Lib.decDigits_one])
theorem split_x : (splitL [120]).length = 1 := split_one (by rw [whole_len]; simp [Lib.decDigits_one])
theorem split_37 : (splitL (xS 37)).length = 1 := split_one (by rw [whole_len]; simp [xS, Lib.decDigits_two])
theorem split_38 : (splitL (xS 38)).length = 2 := by
  have h : (wholeL (xS 38)).length = 41 := by rw [whole_len]; simp [xS, Lib.decDigits_two]
  unfold splitL
  rw [chunks_gt (by omega), chunks_le (by rw [List.length_drop]; omega)]
  rfl

/-- An append that is done, on a disk that was new. -/
theorem app_done {d : Dk} {L : Lg} (h : DInv d L) (hn : L.s.num < 999999999) (r : List UInt8) (hr : r.length ≤ 2000) (hp : (partsL (L.list ++ [r])).length ≤ halfN L.n) :
    ∃ L' d', appL L d r = (0, L', d') ∧ DInv d' L' ∧ L'.n = L.n ∧ L'.list = L.list ++ [r] ∧ L'.s.num = L.s.num + 1 ∧ L'.s.gen = L.s.gen := by
  rw [parts_append, parts_one, List.length_append, ← ((open_iff h.inv.n6 h.inv.n4).1 h.inv.op).2.2.2.1] at hp
  have h2 := app_dinv (r := r) h hp (by omega)
  have h3 := (app_inv (r := r) h.inv hp (by omega)).1
  have hb := ((open_iff h.inv.n6 h.inv.n4).1 h.inv.op).2.1
  refine ⟨_, _, ?_, h2, rfl, rfl, rfl, rfl⟩
  unfold appL
  rw [if_neg (by rw [hb]; decide), if_neg (by omega), if_neg (by omega), h3]
  rfl

theorem rew_done {d : Dk} {L : Lg} (h : DInv d L) (hn : L.s.num < 999999999) (hg : L.s.gen < 999999) (rs : List (List UInt8)) (hr : (rs.any fun r => decide (2000 < r.length)) = false) (hp : (partsL rs).length ≤ halfN L.n) :
    ∃ L' d', rewL L d rs = (0, L', d') ∧ DInv d' L' ∧ L'.n = L.n ∧ L'.list = rs ∧ L'.s.num = L.s.num + 1 ∧ L'.s.gen = L.s.gen + 1 := by
  have h2 := rew_dinv (rs := rs) h hp (by omega) (by omega)
  have h3 := (rew_inv (rs := rs) h.inv hp (by omega) (by omega)).1
  have hb := ((open_iff h.inv.n6 h.inv.n4).1 h.inv.op).2.1
  refine ⟨_, _, ?_, h2, rfl, rfl, rfl, rfl⟩
  unfold rewL
  rw [if_neg (by rw [hb]; decide), if_neg (by rw [hr]; decide), if_neg (by omega), if_neg (by omega), h3]
  rfl

theorem app_full {d : Dk} {L : Lg} (h : Inv d L) (r : List UInt8) (hr : r.length ≤ 2000) (hp : halfN L.n < (partsL (L.list ++ [r])).length) : appL L d r = (18, L, d) := by
  rw [parts_append, parts_one, List.length_append, ← ((open_iff h.n6 h.n4).1 h.op).2.2.2.1] at hp
  have hb := ((open_iff h.n6 h.n4).1 h.op).2.1
  unfold appL
  rw [if_neg (by rw [hb]; decide), if_neg (by omega), if_pos (.inl (by omega))]

theorem Inv.len {d : Dk} {L : Lg} (h : Inv d L) : L.s.len = (partsL L.list).length := ((open_iff h.n6 h.n4).1 h.op).2.2.2.1

theorem Inv.lok {d : Dk} {L : Lg} (h : Inv d L) : LOK L := by
  obtain ⟨_, _, hp, hl, _⟩ := (open_iff h.n6 h.n4).1 h.op
  obtain ⟨hf, hl2, ha⟩ := pick_fits hp
  exact ⟨h.n6, h.n4, by omega, hf, hl, hl2⟩

theorem rot_calm {d : Dk} {n : Nat} (h : d.Calm) (w : d.Wf n) (k i m : Int) : (d.rot k i m).Calm ∧ (d.rot k i m).Wf n := by
  unfold Dk.rot
  split
  · rename_i hk
    refine ⟨⟨h.on, h.q, h.arm⟩, ⟨by simpa using w.st, w.el, fun j hj => ?_, w.e64⟩⟩
    have h1 := w.s64 j hj
    have h2 := w.s64 k.toNat (by have := w.st; omega)
    simp only [List.getD_eq_getElem?_getD, List.getElem?_set] at h1 h2 ⊢
    by_cases hki : k.toNat = j
    · subst hki
      rw [if_pos rfl, if_pos (by have := w.st; omega)]
      simpa using h2
    · rw [if_neg hki]; exact h1
  · exact ⟨h, w⟩

theorem rot_eq {d : Dk} {n : Nat} (w : d.Wf n) {k i m : Nat} (hk : k < n) (hi : i < 64) (h0 : 0 < m) (hm : m < 256) : d.rot k i m = { d with st := d.st.set k ((d.st.getD k []).set i ((d.st.getD k []).getD i 0 ^^^ UInt8.ofNat m)) } := by
  unfold Dk.rot
  rw [if_pos ⟨by omega, by rw [w.st]; omega, by omega, by omega, by omega, by omega⟩]
  rfl

/-- A byte that rots where no record is. -/
theorem rot_free {d : Dk} {L : Lg} (h : Inv d L) {k i m : Nat} (h2 : 2 ≤ k) (hk : k < L.n) (hf : k < startN L.n L.s.gen ∨ startN L.n L.s.gen + L.s.len ≤ k) (hi : i < 64) (h0 : 0 < m) (hm : m < 256) : Inv (d.rot k i m) L := by
  obtain ⟨c1, c2⟩ := rot_calm h.calm h.wf k i m
  refine ⟨c1, c2, h.n6, h.n4, ?_⟩
  have hp := ((open_iff h.n6 h.n4).1 h.op).2.2.1
  have e : (fun s => (d.rot k i m).st.getD s []) = fun s => if s = k then (d.st.getD k []).set i ((d.st.getD k []).getD i 0 ^^^ UInt8.ofNat m) else d.st.getD s [] := by
    rw [rot_eq h.wf hk hi h0 hm]
    exact set_getD (by rw [h.wf.st]; exact hk)
  rw [e]
  have := open_same (g := fun s => if s = k then (d.st.getD k []).set i ((d.st.getD k []).getD i 0 ^^^ UInt8.ofNat m) else d.st.getD s []) h.n6 h.n4 h.op (a := L.at_) (by rw [← hp]; exact pick_congr (if_neg (by omega)) (if_neg (by omega))) fun j h3 h4 => if_neg (by omega)
  exact this

/-- A byte of a record that rots. -/
theorem rot_data {d : Dk} {L : Lg} (h : Inv d L) {k i m : Nat} (h1 : startN L.n L.s.gen ≤ k) (h2 : k < startN L.n L.s.gen + L.s.len) (hi : i < 64) (h0 : 0 < m) (hm : m < 256) : openL (d.rot k i m) = .error 20 := by
  obtain ⟨_, hbk, hp, hl, hd⟩ := (open_iff h.n6 h.n4).1 h.op
  obtain ⟨hf, hl2, ha⟩ := pick_fits hp
  have hst := start_le L.n L.s.gen h.n6
  rw [rot_eq h.wf (by omega : k < L.n) hi h0 hm, open_at h (by omega)]
  refine open_bad h.n6 h.n4 (k := k) (s := L.s) (a := L.at_) (by rw [← hp]; exact pick_congr (if_neg (by omega)) (if_neg (by omega))) h1 h2 ?_
  simp only [if_true]
  obtain ⟨b, hx⟩ := getx (show k - startN L.n L.s.gen < (partsL L.list).length by omega)
  have hb := hd _ b hx
  rw [show startN L.n L.s.gen + (k - startN L.n L.s.gen) = k by omega] at hb
  have hb : d.st.getD k [] = putL L.s.gen k b := hb
  have hb4 := parts_len _ hx
  rw [hb]
  obtain ⟨x, hx⟩ := getx (show i < (putL L.s.gen k b).length by rw [putL_len hb4]; exact hi)
  have e2 : (putL L.s.gen k b).getD i 0 = x := by rw [List.getD_eq_getElem?_getD, hx]; rfl
  rw [e2]
  refine rot (e := (L.s.gen : Int)) (p := (k : Int)) hb4 hx fun hx2 => ?_
  have h3 : UInt8.ofNat m = 0 := by
    have := congrArg (x ^^^ ·) hx2
    simpa [← UInt8.xor_assoc] using this
  have h4 := congrArg UInt8.toNat h3
  rw [UInt8.toNat_ofNat'] at h4
  simp at h4
  omega

end Go.Proofs.YtfjajkgfgigodaaGreatDoor

/- The statements of the log: the examples with known results, walked. -/
namespace Go.Proofs.YtfjajkgfgigodaaGreatDoor
open Go

set_option maxHeartbeats 4000000 in
set_option maxRecDepth 100000 in
theorem text_spec (n : Nat) (h : Heap) (hn : n ≤ 100000) : SpecR Tryz.prog 42 [.int .i64 n] h fun v h' => v = .string ⟨⟨xS n⟩⟩ ∧ Own h [] h' := by
  refine Spec.enter Tryz.func42 rfl Tryz.ntmps42 (by kernel_rfl) ?_
  have o0 := Own.refl h
  refine LoopVC.intro [3, 4, 5, 6, 7, 8, 9] [3] (fun vs hh => ∃ i, i ≤ n ∧ vs = [.string ⟨⟨xS i⟩⟩] ∧ Own h [] hh) (fun vs _ => match vs with | [.string s] => n - s.size | _ => 0) ?_ ?_
  · exact ⟨0, by omega, rfl, o0⟩
  · rintro vs junk hh ⟨i, hi, rfl, o⟩
    have hl : (xS i).length = i := by simp [xS]
    have hsz : (⟨⟨xS i⟩⟩ : ByteArray).size = i := hl
    by_cases hlt : i < n
    · refine StillVC.run (StillVC.lenS rfl str9 ?_)
      refine Br.dec (fun c41 => ?_) (fun hc => absurd (by omega) hc)
      refine StillVC.run (StillVC.strAdd rfl rfl (by first | omega | (simp; omega)) ?_)
      refine ⟨rfl, ?_⟩
      have e : xS i ++ [120] = xS (i + 1) := by simp [xS, List.replicate_succ']
      rw [e]
      have hsz1 : (⟨⟨xS (i + 1)⟩⟩ : ByteArray).size = i + 1 := by show (xS (i + 1)).length = _; simp [xS]
      exact ⟨⟨i + 1, by omega, rfl, o⟩, by simp only [hsz, hsz1]; omega⟩
    · obtain rfl : i = n := by omega
      refine StillVC.run (StillVC.lenS rfl str9 ?_)
      refine Br.dec (fun hc => absurd hc (by omega)) (fun c61 => ?_)
      refine RetVC.one rfl ?_
      exact ⟨rfl, o⟩

theorem RD.box {hB : Heap} {b n : Nat} {t : TypeId} {l : List (List UInt8)} (hn : (strs l).length = n) : RD hB (Go.Proofs.YtfjajkgfgigodaaGreatDoor.box b (strs l) t) (.slice (some ⟨b, 0, none⟩) n n) l := fun _ _ _ o => o.boxArr 0 rfl hn (Nat.le_refl _)

set_option maxHeartbeats 8000000 in
set_option maxRecDepth 100000 in
theorem head_spec46 (h : Heap) (ht : TabH h) : SpecR Tryz.prog 11 [] h fun v h' => v = .bool true ∧ Own h [] h' := by
  have h0 := new_dinv (n := 10) (by decide) (by decide)
  obtain ⟨L1, d1, e1, h1, n1, l1, u1, g1⟩ := app_done h0 (by decide) [97] (by decide) (by simp [partsL, split_a, halfN])
  simp only [List.nil_append] at l1 n1 u1 g1
  obtain ⟨L2, d2, e2, h2, n2, l2, u2, g2⟩ := app_done h1 (by omega) (xS 37) (by simp [xS]) (by rw [l1, n1]; simp [partsL, split_a, split_37, halfN])
  rw [l1] at l2
  rw [n1] at n2
  obtain ⟨L3, d3, e3, h3, n3, l3, u3, g3⟩ := app_done h2 (by omega) (xS 38) (by simp [xS]) (by rw [l2, n2]; simp [partsL, split_a, split_37, split_38, halfN])
  rw [l2] at l3
  rw [n2] at n3
  have e4 : appL L3 d3 [98] = (18, L3, d3) := app_full h3.inv [98] (by decide) (by rw [l3, n3]; simp [partsL, split_a, split_37, split_38, split_b, halfN])
  obtain ⟨L5, d5, e5, h5, n5, l5, u5, g5⟩ := rew_done h3 (by omega) (by omega) [[120]] (by decide) (by rw [n3]; simp [partsL, split_x, halfN])
  rw [n3] at n5
  have gen5 : L5.s.gen = 1 := by omega
  have len2 : L2.s.len = 2 := by rw [h2.inv.len, l2]; simp [partsL, split_a, split_37]
  have len5 : L5.s.len = 1 := by rw [h5.inv.len, l5]; simp [partsL, split_x]
  have st5 : startN L5.n L5.s.gen = 6 := by rw [n5, gen5]; rfl
  have i6 := rot_free h5.inv (k := 5) (i := 3) (m := 1) (by decide) (by omega) (.inl (by omega)) (by decide) (by decide) (by decide)
  have e7 := rot_data i6 (k := 6) (i := 3) (m := 1) (by omega) (by omega) (by decide) (by decide) (by decide)
  have est := start_calm h5.inv.calm 0 0
  have o5 : openL (newD 5) = .error 1 := rfl
  have ll0 : (⟨⟨0, 0, 0⟩, 10, 0, [], false⟩ : Lg).list = [] := rfl
  have ln0 : (⟨⟨0, 0, 0⟩, 10, 0, [], false⟩ : Lg).s.num = 0 := rfl
  generalize hd0 : newD 10 = d0 at *
  generalize (⟨⟨0, 0, 0⟩, 10, 0, [], false⟩ : Lg) = L0 at *
  refine Spec.enter Tryz.func11 rfl Tryz.ntmps11 (by kernel_rfl) ?_
  refine CallVC.ret (new_disk 10 _ (by decide) (by decide)) ?_
  rintro _ m1 ⟨dp, I0, rfl, hI0, oc⟩
  rw [hd0] at hI0
  have q0 : d0.q = [] := h0.inv.calm.q
  refine CallVC.ret (open_spec ⟨h, []⟩ dp d0 I0 _ ht hI0 (by rw [q0]; simp) oc) ?_
  rw [h0.inv.open']
  rintro _ m2 ⟨lp, lv0, rv, rfl, o2⟩
  have o2 : Own ⟨h, []⟩ [I0, box lp (logC dp L0 lv0) 74, row lv0 9 1 L0.list.length (strs L0.list), row rv 9 1 L0.list.length (strs L0.list)] m2 := o2
  rw [ll0] at o2
  obtain ⟨ra, rc, rfl⟩ := o2.rowIs 3 rfl
  clear oc
  have o2 := o2.sel [0, 1, 2] rfl
  simp only [pick, List.getElem?_cons_succ, List.getElem?_cons_zero] at o2
  rw [← ll0] at o2
  refine Br.ff ?_
  refine StillVC.run (StillVC.lenV rfl sl22 ?_)
  refine Br.ff ?_
  refine CallVC.ret (append_spec ⟨h, []⟩ lp dp d0 I0 L0 lv0 [97] _ ht hI0 (by rw [q0]; simp) h0.inv.lok (by omega) (by decide) o2) ?_
  rw [e1]
  rintro _ m3 ⟨rfl, I1, lv1, hI1, o3⟩
  clear o2
  refine Br.ndec (fun hc => absurd (by first | omega | assumption | decide | exact rfl) hc) (fun c80 => ?_)
  refine CallVC.ret (text_spec 37 _ (by decide)) ?_
  rintro _ m4 ⟨rfl, oc⟩
  have o4 := o3.ext' oc
  clear oc o3
  refine CallVC.ret (append_spec ⟨h, []⟩ lp dp d1 I1 L1 lv1 (xS 37) _ ht hI1 (by rw [h1.inv.calm.q]; simp) h1.inv.lok (by omega) (by simp [xS]) o4) ?_
  rw [e2]
  rintro _ m5 ⟨rfl, I2, lv2, hI2, o5'⟩
  have o5' : Own ⟨h, []⟩ [I2, box lp (logC dp L2 lv2) 74, row lv2 9 1 L2.list.length (strs L2.list)] m5 := o5'
  clear o4
  refine Br.ndec (fun hc => absurd (by first | omega | assumption | decide | exact rfl) hc) (fun c120 => ?_)
  refine CallVC.ret (room_spec lp L2.n L2.s.len _ (o5'.cellB 1 rfl 2) (o5'.cellB 1 rfl 4) (by omega) (by omega) (by omega)) ?_
  rintro _ m6 ⟨rfl, oc⟩
  have o6 := o5'.ext' oc
  clear oc o5'
  have er : ((halfN L2.n : Nat) : Int) - (L2.s.len : Nat) = 2 := by rw [n2, len2]; rfl
  rw [er]
  refine Br.ff ?_
  refine CallVC.ret (text_spec 38 _ (by decide)) ?_
  rintro _ m7 ⟨rfl, oc⟩
  have o7 := o6.ext' oc
  clear oc o6
  refine CallVC.ret (append_spec ⟨h, []⟩ lp dp d2 I2 L2 lv2 (xS 38) _ ht hI2 (by rw [h2.inv.calm.q]; simp) h2.inv.lok (by omega) (by simp [xS]) o7) ?_
  rw [e3]
  rintro _ m8 ⟨rfl, I3, lv3, hI3, o8⟩
  clear o7
  refine Br.ndec (fun hc => absurd (by first | omega | assumption | decide | exact rfl) hc) (fun c180 => ?_)
  refine CallVC.ret (append_spec ⟨h, []⟩ lp dp d3 I3 L3 lv3 [98] _ ht hI3 (by rw [h3.inv.calm.q]; simp) h3.inv.lok (by omega) (by decide) o8) ?_
  rw [e4]
  rintro _ m9 ⟨rfl, I4, lv4, hI4, o9⟩
  have o9 : Own ⟨h, []⟩ [I4, box lp (logC dp L3 lv4) 74, row lv4 9 1 L3.list.length (strs L3.list)] m9 := o9
  clear o8
  clear e1 e2 e3 e4
  refine Br.ndec (fun hc => absurd (by first | omega | assumption | decide | exact rfl) hc) (fun c200 => ?_)
  refine CallVC.ret (open_spec _ dp d3 I4 _ (by exact ht) hI4 (by rw [h3.inv.calm.q]; simp) (o9.lend [0] [1, 2] rfl)) ?_
  rw [h3.inv.open']
  rintro _ m10 ⟨lp2, lv5, rv3, rfl, oc⟩
  have o10 := oc.back
  clear oc o9
  have o10 : Own ⟨h, []⟩ [I4, box lp2 (logC dp L3 lv5) 74, row lv5 9 1 L3.list.length (strs L3.list), row rv3 9 1 L3.list.length (strs L3.list), box lp (logC dp L3 lv4) 74, row lv4 9 1 L3.list.length (strs L3.list)] m10 := o10
  have o11 : Own ⟨h, []⟩ [I4, box lp (logC dp L3 lv4) 74, row lv4 9 1 L3.list.length (strs L3.list), row rv3 9 1 L3.list.length (strs L3.list)] m10 := o10.sel [0, 4, 5, 3] rfl
  clear o10
  (refine RunVC.lit o11 sl22 ty9 rfl rfl (by decide) (And.intro rfl ?_); intro b220 m220 o220)
  have o12 : Own ⟨h, []⟩ [I4, box lp (logC dp L3 lv4) 74, row lv4 9 1 L3.list.length (strs L3.list), row rv3 9 1 L3.list.length (strs L3.list), box b220 (strs [[120]]) 9] m220 := o220
  clear o220 o11
  refine CallVC.ret (rewrite_spec _ lp dp d3 I4 (box b220 (strs [[120]]) 9) L3 lv4 _ [[120]] _ (by exact ht) hI4 (by rw [h3.inv.calm.q]; simp) h3.inv.lok (by decide) (by simp [partsL, split_x]) (by decide) (RD.box rfl) (o12.lend [0, 1, 2, 4] [3] rfl)) ?_
  rw [e5]
  rintro _ m13 ⟨rfl, I5, lv6, hI5, oc⟩
  have o13 := oc.back
  have o13 : Own ⟨h, []⟩ [I5, box lp (logC dp L5 lv6) 74, row lv6 9 1 L5.list.length (strs L5.list), box b220 (strs [[120]]) 9, row rv3 9 1 L3.list.length (strs L3.list)] m13 := o13
  clear oc o12 e5
  refine CallVC.ret (room_spec lp L5.n L5.s.len _ (o13.cellB 1 rfl 2) (o13.cellB 1 rfl 4) (by omega) (by omega) (by omega)) ?_
  have er5 : ((halfN L5.n : Nat) : Int) - (L5.s.len : Nat) = 3 := by rw [n5, len5]; rfl
  rw [er5]
  rintro _ m14 ⟨rfl, oc⟩
  have o14 := o13.ext' oc
  clear oc o13
  have q5 := h5.inv.calm.q
  refine CallVC.ret (fail_disk _ dp d5 I5 0 0 _ hI5 (o14.lend [0] [1, 2, 4] rfl) (by rw [q5]; simp)) ?_
  rintro _ m15 ⟨rfl, I6, hI6, oc⟩
  have o15 : Own ⟨h, []⟩ [I6, box lp (logC dp L5 lv6) 74, row lv6 9 1 L5.list.length (strs L5.list), row rv3 9 1 L3.list.length (strs L3.list)] m15 := oc.back
  clear oc o14
  refine CallVC.ret (start_disk _ dp (d5.fail 0 0) I6 _ hI6 (o15.lend [0] [1, 2, 3] rfl)) ?_
  rw [est]
  rintro _ m16 ⟨rfl, I7, hI7, oc⟩
  have o16 : Own ⟨h, []⟩ [I7, box lp (logC dp L5 lv6) 74, row lv6 9 1 L5.list.length (strs L5.list), row rv3 9 1 L3.list.length (strs L3.list)] m16 := oc.back
  clear oc o15
  refine CallVC.ret (open_spec _ dp d5 I7 _ (by exact ht) hI7 (by rw [q5]; simp) (o16.lend [0] [1, 2, 3] rfl)) ?_
  rw [h5.inv.open']
  rintro _ m17 ⟨lp3, lv7, xv, rfl, oc⟩
  have o17 : Own ⟨h, []⟩ [I7, box lp3 (logC dp L5 lv7) 74, row lv7 9 1 L5.list.length (strs L5.list), row xv 9 1 L5.list.length (strs L5.list), box lp (logC dp L5 lv6) 74, row lv6 9 1 L5.list.length (strs L5.list), row rv3 9 1 L3.list.length (strs L3.list)] m17 := oc.back
  have o18 : Own ⟨h, []⟩ [I7, box lp (logC dp L5 lv6) 74, row lv6 9 1 L5.list.length (strs L5.list), row rv3 9 1 L3.list.length (strs L3.list), row xv 9 1 L5.list.length (strs L5.list)] m17 := o17.sel [0, 4, 5, 6, 3] rfl
  clear oc o16 o17
  refine CallVC.ret (new_disk 5 _ (by decide) (by decide)) ?_
  rintro _ m19 ⟨dp5, I9, rfl, hI9, oc⟩
  have o19 := Own.call o18 oc
  simp only [List.cons_append, List.nil_append] at o19
  clear oc o18
  refine CallVC.ret (open_spec _ dp5 (newD 5) I9 _ (by exact ht) hI9 (by decide) (o19.lend [5] [0, 1, 2, 3, 4] rfl)) ?_
  rw [o5]
  rintro _ m20 ⟨rfl, oc⟩
  have o20 : Own ⟨h, []⟩ [I9, I7, box lp (logC dp L5 lv6) 74, row lv6 9 1 L5.list.length (strs L5.list), row rv3 9 1 L3.list.length (strs L3.list), row xv 9 1 L5.list.length (strs L5.list)] m20 := oc.back
  have o21 : Own ⟨h, []⟩ [I7, box lp (logC dp L5 lv6) 74, row lv6 9 1 L5.list.length (strs L5.list), row rv3 9 1 L3.list.length (strs L3.list), row xv 9 1 L5.list.length (strs L5.list)] m20 := o20.sel [1, 2, 3, 4, 5] rfl
  clear oc o19 o20
  have i6' : Inv (d5.rot 5 3 1) L5 := i6
  have e7' : openL ((d5.rot 5 3 1).rot 6 3 1) = .error 20 := e7
  clear i6 e7
  refine CallVC.ret (rot_disk _ dp d5 I7 5 3 1 _ hI7 (o21.lend [0] [1, 2, 3, 4] rfl)) ?_
  generalize d5.rot 5 3 1 = d6 at i6' e7'
  rintro _ m22 ⟨rfl, I10, hI10, oc⟩
  have o22 : Own ⟨h, []⟩ [I10, box lp (logC dp L5 lv6) 74, row lv6 9 1 L5.list.length (strs L5.list), row rv3 9 1 L3.list.length (strs L3.list), row xv 9 1 L5.list.length (strs L5.list)] m22 := oc.back
  clear oc o21
  refine CallVC.ret (open_spec _ dp d6 I10 _ (by exact ht) hI10 (by rw [i6'.calm.q]; simp) (o22.lend [0] [1, 2, 3, 4] rfl)) ?_
  rw [i6'.open']
  rintro _ m23 ⟨lp4, lv8, yv, rfl, oc⟩
  have o23 : Own ⟨h, []⟩ [I10, box lp4 (logC dp L5 lv8) 74, row lv8 9 1 L5.list.length (strs L5.list), row yv 9 1 L5.list.length (strs L5.list), box lp (logC dp L5 lv6) 74, row lv6 9 1 L5.list.length (strs L5.list), row rv3 9 1 L3.list.length (strs L3.list), row xv 9 1 L5.list.length (strs L5.list)] m23 := oc.back
  have o24 : Own ⟨h, []⟩ [I10, box lp (logC dp L5 lv6) 74, row lv6 9 1 L5.list.length (strs L5.list), row rv3 9 1 L3.list.length (strs L3.list), row xv 9 1 L5.list.length (strs L5.list), row yv 9 1 L5.list.length (strs L5.list)] m23 := o23.sel [0, 4, 5, 6, 7, 3] rfl
  clear oc o22 o23
  refine CallVC.ret (rot_disk _ dp d6 I10 6 3 1 _ hI10 (o24.lend [0] [1, 2, 3, 4, 5] rfl)) ?_
  have q6 : (d6.rot 6 3 1).q = [] := (rot_calm i6'.calm i6'.wf 6 3 1).1.q
  have b5 : L5.broken = false := ((open_iff h5.inv.n6 h5.inv.n4).1 h5.inv.op).2.1
  generalize d6.rot 6 3 1 = d7 at e7' q6
  rintro _ m25 ⟨rfl, I11, hI11, oc⟩
  have o25 : Own ⟨h, []⟩ [I11, box lp (logC dp L5 lv6) 74, row lv6 9 1 L5.list.length (strs L5.list), row rv3 9 1 L3.list.length (strs L3.list), row xv 9 1 L5.list.length (strs L5.list), row yv 9 1 L5.list.length (strs L5.list)] m25 := oc.back
  clear oc o24
  refine CallVC.ret (open_spec _ dp d7 I11 _ (by exact ht) hI11 (by rw [q6]; simp) (o25.lend [0] [1, 2, 3, 4, 5] rfl)) ?_
  rw [e7']
  rintro _ m26 ⟨rfl, oc⟩
  have o26 : Own ⟨h, []⟩ [I11, box lp (logC dp L5 lv6) 74, row lv6 9 1 L5.list.length (strs L5.list), row rv3 9 1 L3.list.length (strs L3.list), row xv 9 1 L5.list.length (strs L5.list), row yv 9 1 L5.list.length (strs L5.list)] m26 := oc.back
  clear oc o25
  refine CallVC.ret (text_spec 37 _ (by decide)) ?_
  rintro _ m27 ⟨rfl, oc⟩
  have o27 := o26.ext' oc
  clear oc o26
  refine CallVC.ret (text_spec 38 _ (by decide)) ?_
  rintro _ m28 ⟨rfl, oc⟩
  have o28 := o27.ext' oc
  clear oc o27
  (refine RunVC.lit o28 sl22 ty9 rfl rfl (by decide) (And.intro rfl ?_); intro b480 m480 o480)
  have o29 : Own ⟨h, []⟩ [I11, box lp (logC dp L5 lv6) 74, row lv6 9 1 L5.list.length (strs L5.list), row rv3 9 1 L3.list.length (strs L3.list), row xv 9 1 L5.list.length (strs L5.list), row yv 9 1 L5.list.length (strs L5.list), box b480 (strs [[97], xS 37, xS 38]) 9] m480 := o480
  clear o480 o28
  have s3 : L3.list = [[97], xS 37, xS 38] := l3
  refine CallVC.ret (same_spec L3.list [[97], xS 37, xS 38] _ _ _ (o29.rowArr 3 rfl) (o29.boxArr 6 rfl (n := 3) rfl (Nat.le_refl _)) (by rw [s3]; decide)) ?_
  rw [decide_eq_true s3]
  rintro _ m30 ⟨rfl, oc⟩
  have o30 := o29.ext' oc
  clear oc o29
  refine Br.tt ?_
  refine Br.dec (fun c500 => ?_) (fun hc => absurd (by omega) hc)
  refine Br.tt ?_
  (refine RunVC.lit o30 sl22 ty9 rfl rfl (by decide) (And.intro rfl ?_); intro b501 m501 o501)
  have o31 : Own ⟨h, []⟩ [I11, box lp (logC dp L5 lv6) 74, row lv6 9 1 L5.list.length (strs L5.list), row rv3 9 1 L3.list.length (strs L3.list), row xv 9 1 L5.list.length (strs L5.list), row yv 9 1 L5.list.length (strs L5.list), box b480 (strs [[97], xS 37, xS 38]) 9, box b501 (strs [[120]]) 9] m501 := o501
  clear o501 o30
  refine CallVC.ret (same_spec L5.list [[120]] _ _ _ (o31.rowArr 4 rfl) (o31.boxArr 7 rfl (n := 1) rfl (Nat.le_refl _)) (by rw [l5]; decide)) ?_
  rw [decide_eq_true l5]
  rintro _ m32 ⟨rfl, oc⟩
  have o32 := o31.ext' oc
  clear oc o31
  refine Br.tt ?_
  refine Br.tt ?_
  refine Br.tt ?_
  refine Br.tt ?_
  refine CallVC.ret (same_spec L5.list L5.list _ _ _ (o32.rowArr 5 rfl) (o32.rowArr 4 rfl) (by rw [l5]; decide)) ?_
  rw [decide_eq_true rfl]
  rintro _ m33 ⟨rfl, oc⟩
  have o33 := o32.ext' oc
  clear oc o32
  refine Br.tt ?_
  refine Br.tt ?_
  refine CallVC.ret (text_spec 2001 _ (by decide)) ?_
  rintro _ m34 ⟨rfl, oc⟩
  have o34 := o33.ext' oc
  clear oc o33
  have el : appL L5 d7 (xS 2001) = (3, L5, d7) := by
    unfold appL
    rw [if_neg (by rw [b5]; decide), if_pos (by simp [xS])]
  refine CallVC.ret (append_spec _ lp dp d7 I11 L5 lv6 (xS 2001) _ (by exact ht) hI11 (by rw [q6]; simp) h5.inv.lok (by omega) (by simp [xS]) (o34.lend [0, 1, 2] [3, 4, 5] rfl)) ?_
  rw [el]
  rintro _ m35 ⟨rfl, I12, lv9, hI12, oc⟩
  have o35 := oc.back.sel [] rfl
  clear oc o34
  refine RetVC.one rfl ?_
  exact ⟨rfl, o35⟩

end Go.Proofs.YtfjajkgfgigodaaGreatDoor
