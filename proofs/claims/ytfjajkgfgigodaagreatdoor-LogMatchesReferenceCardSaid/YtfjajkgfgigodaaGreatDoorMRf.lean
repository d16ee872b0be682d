/-
  Get of the reference of chapter 45. The reference disk: zero bytes, set, settle. The reference disk: Fail, count, Sync. The reference disk: Write, Read, Start, Arm, Stale. The reference disk: New, Rot. The reference log: digits, halves, sectors of zero bytes, heads. The reference log: writes to sectors, and a synchronization behind them. The reference log: what a head says, and the records of bodies. The reference log: Append, Records, Room. The reference log: Rewrite. The reference log: Rewrite. Arrays of three numbers, compared. The reference log: Open.
-/
import Derived.Test.YtfjajkgfgigodaaGreatDoorStructs
import Derived.Test.YtfjajkgfgigodaaGreatDoorMPl
import Derived.Test.YtfjajkgfgigodaaGreatDoorMSe
import Derived.Test.YtfjajkgfgigodaaGreatDoorVcSep
import Derived.Test.YtfjajkgfgigodaaGreatDoorMDi
import Derived.Test.YtfjajkgfgigodaaGreatDoorMDu
import Derived.Test.YtfjajkgfgigodaaGreatDoorMFo
import Derived.Test.YtfjajkgfgigodaaGreatDoorMLa
import Derived.Test.YtfjajkgfgigodaaGreatDoorMLb
import Derived.Test.YtfjajkgfgigodaaGreatDoorMLc
import Derived.Test.YtfjajkgfgigodaaGreatDoorVcCut
import Derived.ChangeKeysEq
/- Get of the reference of chapter 45. -/
namespace Go.Proofs.YtfjajkgfgigodaaGreatDoor
open Go

def valueR (l : List UInt8) : Int := if unbe l ≤ 4000000000 then unbe l else -1

theorem value_spec (l : List UInt8) (h : Heap) (hl : l.length ≤ 1000) :
    SpecR Tryz.prog 97 [.string ⟨⟨l⟩⟩] h fun r h' => r = .int .i64 (valueR l) ∧ Own h [] h' := by
  refine Spec.enter Tryz.func97 rfl Tryz.ntmps97 (by kernel_rfl) ?_
  refine LoopVC.intro [2, 3, 4, 5, 6, 7, 8, 9, 10, 11, 12, 13, 14, 15, 16, 17, 18, 19] [3, 4] (fun vs h1 => ∃ (i : Nat), i ≤ l.length ∧ vs = [.int .i64 (unbe (l.take i) : Nat), .int .i64 i] ∧ unbe (l.take i) ≤ 4000000000 ∧ h1 = h) (fun vs _ => match vs with | [_, .int _ i] => l.length - i.toNat | _ => 0) ?_ ?_
  · exact ⟨0, by omega, rfl, by rw [List.take_zero]; decide, rfl⟩
  · rintro vs junk h1 ⟨i, hi, rfl, hn, rfl⟩
    by_cases hlt : i < l.length
    · obtain ⟨c, hc⟩ := getx hlt
      have hc8 := u8_lt c
      have sn := unbe_take l i c hc
      have hm := unbe_le l (i + 1)
      generalize unbe (l.take i) = x at *
      by_cases hx : x * 256 + c.toNat ≤ 4000000000
      · refine StillVC.run (StillVC.lenS rfl str9 ?_)
        refine Br.dec (fun c21 => ?_) (fun hc => absurd (by omega) hc)
        refine Ar.i64 (by omega) (by omega) ?_
        refine StillVC.run (StillVC.strIdx rfl rfl str9 (by omega) (by assumption) ?_)
        refine StillVC.run (StillVC.convI rfl int5 int3 ?_)
        refine Ar.i64 (by omega) (by omega) ?_
        refine Ar.i64 (by omega) (by omega) ?_
        refine Br.dec (fun hc => absurd hc (by omega)) (fun c24 => ?_)
        refine Ar.i64 (by omega) (by omega) ?_
        refine ⟨rfl, ?_⟩
        exact ⟨⟨i + 1, by omega, by rw [sn]; simp, by omega, rfl⟩, by simp; omega⟩
      · refine StillVC.run (StillVC.lenS rfl str9 ?_)
        refine Br.dec (fun c41 => ?_) (fun hc => absurd (by omega) hc)
        refine Ar.i64 (by omega) (by omega) ?_
        refine StillVC.run (StillVC.strIdx rfl rfl str9 (by omega) (by assumption) ?_)
        refine StillVC.run (StillVC.convI rfl int5 int3 ?_)
        refine Ar.i64 (by omega) (by omega) ?_
        refine Ar.i64 (by omega) (by omega) ?_
        refine Br.dec (fun c44 => ?_) (fun hc => absurd (by omega) hc)
        refine RetVC.one rfl ?_
        refine ⟨?_, .refl _⟩
        unfold valueR
        rw [if_neg (by omega)]
    · obtain rfl : i = l.length := by omega
      rw [List.take_length] at hn ⊢
      refine StillVC.run (StillVC.lenS rfl str9 ?_)
      refine Br.dec (fun hc => absurd hc (by omega)) (fun c51 => ?_)
      refine RetVC.one rfl ?_
      refine ⟨?_, .refl _⟩
      unfold valueR
      rw [if_pos hn]

set_option maxRecDepth 100000 in
theorem refGet_spec (e p : Int) (l : List UInt8) (h : Heap) (_hl : l.length ≤ 140737488351232) :
    SpecR Tryz.prog 68 [.int .i64 e, .int .i64 p, .string ⟨⟨l⟩⟩] h fun r h' => r = .tuple ⟨[.string ⟨⟨(getR e p l).1⟩⟩, .int .i64 (getR e p l).2]⟩ ∧ Own h [] h' := by
  refine Spec.enter Tryz.func68 rfl Tryz.ntmps68 (by kernel_rfl) ?_
  have o0 := Own.refl h
  refine CallVC.ret (refPlaced_spec e p h) ?_
  rintro _ h1 ⟨rfl, oc⟩
  have o1 := o0.ext' oc
  clear o0 oc
  cases hp : placedB e p with
  | false =>
    refine Br.tt ?_
    refine RetVC.two rfl ?_
    exact ⟨by simp [getR, hp], o1⟩
  | true =>
  by_cases h64 : l.length = 64
  · have k1 : (e8 l).length ≤ 1000 := by simp [e8]; omega
    have k2 : (p4 l).length ≤ 1000 := by simp [p4]; omega
    have k3 : (n4 l).length ≤ 1000 := by simp [n4]; omega
    refine Br.ff ?_
    refine StillVC.run (StillVC.lenS rfl str9 ?_)
    refine Br.ndec (fun hc => absurd (by first | omega | assumption | decide | exact rfl) hc) (fun c31 => ?_)
    refine StillVC.run (StillVC.sliceS str9 rfl rfl ⟨_, rfl⟩ (by omega) (by omega) (by omega) ?_)
    refine CallVC.ret (value_spec (e8 l) _ k1) ?_
    rintro _ h2 ⟨rfl, oc⟩
    have o2 := o1.ext' oc
    refine StillVC.run (StillVC.sliceS str9 rfl ⟨_, rfl⟩ ⟨_, rfl⟩ (by omega) (by omega) (by omega) ?_)
    refine CallVC.ret (value_spec (p4 l) _ k2) ?_
    rintro _ h3 ⟨rfl, oc⟩
    have o3 := o2.ext' oc
    refine StillVC.run (StillVC.sliceS str9 rfl ⟨_, rfl⟩ ⟨_, rfl⟩ (by omega) (by omega) (by omega) ?_)
    refine CallVC.ret (value_spec (n4 l) _ k3) ?_
    rintro _ h4 ⟨rfl, oc⟩
    have o4 := o3.ext' oc
    clear o1 o2 o3 oc
    by_cases hn : unbe (n4 l) ≤ 40
    · have hv : valueR (n4 l) = unbe (n4 l) := by unfold valueR; rw [if_pos (by omega)]
      rw [hv]
      have hbl : (bodyOf l).length ≤ 140737488351232 := by unfold bodyOf; simp; omega
      refine Br.dec (fun hc => absurd hc (by omega)) (fun c60 => ?_)
      refine Br.dec (fun hc => absurd hc (by omega)) (fun c61 => ?_)
      refine Ar.i64 (by omega) (by omega) ?_
      refine StillVC.run (StillVC.sliceS str9 rfl ⟨_, rfl⟩ ⟨_, rfl⟩ (by omega) (by omega) (by omega) ?_)
      refine CallVC.ret (refPut_spec (valueR (e8 l)) (valueR (p4 l)) (bodyOf l) _ hbl) ?_
      rintro _ h5 ⟨rfl, oc⟩
      have o5 := o4.ext' oc
      clear o4 oc
      by_cases hput : putR (unbe (e8 l)) (unbe (p4 l)) (bodyOf l) = (l, 0)
      · have hk : okS l = true := by simp [okS, h64, hn, hput]
        have hpl := placedB_spec (putR_ok hput).1
        have v1 : valueR (e8 l) = unbe (e8 l) := by unfold valueR; rw [if_pos (by omega)]
        have v2 : valueR (p4 l) = unbe (p4 l) := by unfold valueR; rw [if_pos (by omega)]
        rw [v1, v2, hput]
        by_cases he : (unbe (e8 l) : Int) = e
        · by_cases hpp : (unbe (p4 l) : Int) = p
          · refine Br.ndec (fun hc => absurd (by first | omega | assumption | decide | exact rfl) hc) (fun c90 => ?_)
            refine Br.ndec (fun hc => absurd (by first | omega | assumption | decide | exact rfl) hc) (fun c91 => ?_)
            refine Br.ndec (fun hc => absurd (by first | omega | assumption | decide | exact rfl) hc) (fun c92 => ?_)
            refine Br.ndec (fun hc => absurd (by first | omega | assumption | decide | exact rfl) hc) (fun c93 => ?_)
            refine RetVC.two rfl ?_
            refine ⟨?_, o5⟩
            simp only [getR, hp, hk, he, hpp, if_true, and_self]; rfl
          · refine Br.ndec (fun hc => absurd (by first | omega | assumption | decide | exact rfl) hc) (fun c100 => ?_)
            refine Br.ndec (fun hc => absurd (by first | omega | assumption | decide | exact rfl) hc) (fun c101 => ?_)
            refine Br.ndec (fun hc => absurd (by first | omega | assumption | decide | exact rfl) hc) (fun c102 => ?_)
            refine Br.ndec (fun c103 => ?_) (fun hc => absurd hc (by first | omega | assumption | decide | exact rfl))
            refine RetVC.two rfl ?_
            exact ⟨by simp [getR, hp, hk, hpp], o5⟩
        · refine Br.ndec (fun hc => absurd (by first | omega | assumption | decide | exact rfl) hc) (fun c110 => ?_)
          refine Br.ndec (fun hc => absurd (by first | omega | assumption | decide | exact rfl) hc) (fun c111 => ?_)
          refine Br.ndec (fun c112 => ?_) (fun hc => absurd hc (by first | omega | assumption | decide | exact rfl))
          refine Br.tt ?_
          refine RetVC.two rfl ?_
          exact ⟨by simp [getR, hp, hk, he], o5⟩
      · have hk : okS l = false := by simp [okS, hput]
        have hbad : ¬ putR (valueR (e8 l)) (valueR (p4 l)) (bodyOf l) = (l, 0) := by
          intro hq
          have hpl := placedB_spec (putR_ok hq).1
          have v1 : valueR (e8 l) = unbe (e8 l) := by
            unfold valueR at hpl ⊢; split at hpl <;> first | rfl | omega
          have v2 : valueR (p4 l) = unbe (p4 l) := by
            unfold valueR at hpl ⊢
            by_cases hc : unbe (p4 l) ≤ 4000000000
            · rw [if_pos hc]
            · rw [if_neg hc] at hpl; omega
          rw [v1, v2] at hq
          exact hput hq
        generalize putR (valueR (e8 l)) (valueR (p4 l)) (bodyOf l) = R at *
        obtain ⟨w, er⟩ := R
        by_cases her : er = 0
        · subst her
          have hw : ¬ w = l := fun e => hbad (by rw [e])
          refine Br.ndec (fun hc => absurd (by first | omega | assumption | decide | exact rfl) hc) (fun c120 => ?_)
          refine Br.ndec (fun c121 => ?_) (fun hc => absurd hc (by first | omega | assumption | decide | exact rfl))
          refine RetVC.two rfl ?_
          exact ⟨by simp [getR, hp, hk], o5⟩
        · refine Br.ndec (fun c130 => ?_) (fun hc => absurd hc (by first | omega | assumption | decide | exact rfl))
          refine Br.tt ?_
          refine RetVC.two rfl ?_
          exact ⟨by simp [getR, hp, hk], o5⟩
    · have hv : valueR (n4 l) < 0 ∨ 40 < valueR (n4 l) := by unfold valueR; split <;> omega
      by_cases hv0 : valueR (n4 l) < 0
      · refine Br.dec (fun c70 => ?_) (fun hc => absurd (by omega) hc)
        refine Br.tt ?_
        refine RetVC.two rfl ?_
        exact ⟨by simp [getR, hp, okS, hn], o4⟩
      · refine Br.dec (fun hc => absurd hc (by omega)) (fun c80 => ?_)
        refine Br.dec (fun c81 => ?_) (fun hc => absurd (by omega) hc)
        refine RetVC.two rfl ?_
        exact ⟨by simp [getR, hp, okS, hn], o4⟩
  · refine Br.ff ?_
    refine StillVC.run (StillVC.lenS rfl str9 ?_)
    refine Br.ndec (fun c41 => ?_) (fun hc => absurd hc (by first | omega | assumption | decide | exact rfl))
    refine RetVC.two rfl ?_
    exact ⟨by simp [getR, hp, okS, h64], o1⟩

end Go.Proofs.YtfjajkgfgigodaaGreatDoor

/- The reference disk: zero bytes, set, settle. -/
namespace Go.Proofs.YtfjajkgfgigodaaGreatDoor
open Go

theorem strs_set (l : List (List UInt8)) (i : Nat) (t : List UInt8) : (strs l).set i (.string ⟨⟨t⟩⟩) = strs (l.set i t) := by simp [strs, List.map_set]

/-- A write that is pending, in the reference's memory. -/
def pendR (p : Nat × List UInt8) : List Value := [.int .i64 (p.1 : Int), .string ⟨⟨p.2⟩⟩]

theorem pendR_len (q : List (Nat × List UInt8)) : (q.flatMap pendR).length = q.length * 2 := by
  induction q with
  | nil => rfl
  | cons p q ih => simp [pendR, ih]; omega

/-- A sector's whole text. -/
def Dk.put (d : Dk) (k : Nat) (t : List UInt8) : Dk := { d with el := d.el.set k (d.st.getD k []), st := d.st.set k t }

theorem put_set {d : Dk} {k : Nat} {t : List UInt8} (h : (d.st.getD k []).length = t.length) : d.put k t = d.set k t := by
  unfold Dk.put Dk.set
  rw [List.drop_of_length_le (by omega), List.append_nil]

theorem put_tear {d : Dk} {k n : Nat} {t : List UInt8} (h : n ≤ t.length) : d.put k (t.take n ++ (d.st.getD k []).drop n) = d.set k (t.take n) := by
  unfold Dk.put Dk.set
  rw [show (t.take n).length = n from by rw [List.length_take]; omega]

/-- The reference disk in memory. -/
abbrev RM (rp N : Nat) (sv ev qv : Value) (on arm : Bool) (a w b : Int) (q : List (Nat × List UInt8)) (d : Dk) : List Item := [box rp [sv, ev, qv, .bool on, .bool arm, .int .i64 a, .int .i64 w, .int .i64 b] 94, row sv 9 1 N (strs d.st), row ev 9 1 N (strs d.el), row qv 104 2 q.length (q.flatMap pendR)]

theorem zeros_snoc (i : Nat) : List.replicate i (0 : UInt8) ++ [0] = List.replicate (i + 1) 0 := by
  rw [List.replicate_succ']

set_option maxHeartbeats 4000000 in
set_option maxRecDepth 100000 in
theorem rzero_spec (n : Nat) (h : Heap) (hn : n ≤ 1000) : SpecR Tryz.prog 65 [.int .i64 n] h fun v h' => v = .string ⟨⟨List.replicate n 0⟩⟩ ∧ Own h [] h' := by
  refine Spec.enter Tryz.func65 rfl Tryz.ntmps65 (by kernel_rfl) ?_
  have o0 := Own.refl h
  refine LoopVC.intro [3, 4, 5, 6, 7, 8, 9, 10, 11] [3, 4] (fun vs hh => ∃ (i : Nat) (t : List UInt8), i ≤ n ∧ t = List.replicate i 0 ∧ t.length = i ∧ vs = [.string ⟨⟨t⟩⟩, .int .i64 i] ∧ Own h [] hh) (fun vs _ => match vs with | [_, .int _ i] => n - i.toNat | _ => 0) ?_ ?_
  · exact ⟨0, [], by omega, rfl, rfl, rfl, o0⟩
  · clear o0
    rintro vs junk hh ⟨i, t, hi, ht, htl, rfl, o⟩
    by_cases hlt : i < n
    · refine Br.dec (fun c40 => ?_) (fun hc => absurd (by omega) hc)
      refine StillVC.run (StillVC.strAdd rfl rfl (by first | omega | (simp; omega)) ?_)
      refine Ar.i64 (by omega) (by omega) ?_
      refine ⟨rfl, ?_⟩
      exact ⟨⟨i + 1, t ++ [0], by omega, by rw [ht, zeros_snoc], by simp [htl], rfl, o⟩, by simp only; omega⟩
    · obtain rfl : i = n := by omega
      refine Br.dec (fun hc => absurd hc (by omega)) (fun c40 => ?_)
      refine RetVC.one rfl ?_
      exact ⟨by rw [ht], o⟩

set_option maxHeartbeats 4000000 in
set_option maxRecDepth 100000 in
theorem rset_spec (B : Base) (rp N k : Nat) (sv ev qv : Value) (on arm : Bool) (a w b : Int) (q : List (Nat × List UInt8)) (d : Dk) (t : List UInt8) (h : Heap)
    (o : Own B (RM rp N sv ev qv on arm a w b q d) h) (hS : d.st.length = N) (hE : d.el.length = N) (hk : k < N) :
    SpecR Tryz.prog 75 [.pointer (some ⟨rp, 0, none⟩), .int .i64 k, .string ⟨⟨t⟩⟩] h fun v h' => v = .tuple #[] ∧ Own B (RM rp N sv ev qv on arm a w b q (d.put k t)) h' := by
  unfold RM at o ⊢
  obtain ⟨sa, sc, rfl⟩ := o.rowIs 1 rfl
  obtain ⟨ea, ec, rfl⟩ := o.rowIs 2 rfl
  have hsl : (strs d.st).length = N := by simp [hS]
  have hel : (strs d.el).length = N := by simp [hE]
  obtain ⟨x, hx⟩ := getx (show k < d.st.length by omega)
  have hx2 : d.st.getD k [] = x := by rw [List.getD_eq_getElem?_getD, hx]; rfl
  refine Spec.enter Tryz.func75 rfl Tryz.ntmps75 (by kernel_rfl) ?_
  refine DrawVC.intro [0, 1, 2, 4, 5, 6, 7, 9, 10, 12] [3, 8, 11] [13] [0, 1, 2, 3, 4, 5, 6, 7, 8, 9, 10, 11, 12, 13] mixed (by kernel_rfl) rfl (fun _ _ _ _ h => h) ?_
  refine StillVC.nilCheck rfl ?_
  refine StillVC.fieldAddr st94 rfl rfl rfl ?_
  refine StillVC.loadO o 0 rfl ty22 rfl rfl ?_
  refine StillVC.nilCheck rfl ?_
  refine StillVC.fieldAddr st94 rfl rfl rfl ?_
  refine StillVC.loadO o 0 rfl ty22 rfl rfl ?_
  refine StillVC.idx sl22 ty9 (o.rowArr 1 rfl) rfl (by omega) (by omega) ?_
  refine StillVC.loadM (o.rowArr 1 rfl) ty9 rfl (by first | assumption | rfl) ?_
  refine StillVC.idx sl22 ty9 (o.rowArr 2 rfl) rfl (by omega) (by omega) ?_
  (refine RunVC.storeR o 2 rfl ty9 rfl rfl (by first | omega | (simp; omega)) (And.intro ⟨rfl, rfl⟩ ?_); intro m29 o29)
  refine StillVC.run (StillVC.nilCheck rfl ?_)
  refine StillVC.run (StillVC.fieldAddr st94 rfl rfl rfl ?_)
  refine StillVC.run (StillVC.loadO o29 0 rfl ty22 rfl rfl ?_)
  refine StillVC.run (StillVC.idx sl22 ty9 (o29.rowArr 1 rfl) rfl (by omega) (by omega) ?_)
  (refine RunVC.storeR o29 1 rfl ty9 rfl rfl (by first | omega | (simp; omega)) (And.intro ⟨rfl, rfl⟩ ?_); intro m34 o34)
  refine RetVC.zero rfl ?_
  refine ⟨rfl, ?_⟩
  unfold Dk.put
  rw [hx2]
  simp only
  rw [← strs_set, ← strs_set]
  exact Own.sel (by assumption) [0, 1, 2, 3] rfl

set_option maxHeartbeats 4000000 in
set_option maxRecDepth 100000 in
theorem rsettle_spec (B : Base) (rp N n : Nat) (sv ev qv : Value) (on arm : Bool) (a w b : Int) (q : List (Nat × List UInt8)) (d : Dk) (h : Heap)
    (o : Own B (RM rp N sv ev qv on arm a w b q d) h) (hw : d.Wf N) (hq : InR N q) (hn : n ≤ q.length) (hql : q.length ≤ 1000000) :
    SpecR Tryz.prog 74 [.pointer (some ⟨rp, 0, none⟩), .int .i64 n] h fun v h' => v = .tuple #[] ∧ Own B (RM rp N sv ev qv on arm a w b q (d.settle (q.take n))) h' := by
  obtain ⟨qa, qc, rfl⟩ := o.rowIs 3 rfl
  have hR : Reads (row (.slice qa q.length qc) 104 2 q.length (q.flatMap pendR)) 2 (.slice qa q.length qc) q.length (q.flatMap pendR) := row_reads
  refine Spec.enter Tryz.func74 rfl Tryz.ntmps74 (by kernel_rfl) ?_
  refine LoopVC.intro [4, 5, 6, 7, 8, 9, 10, 11, 12, 13, 14, 15, 16, 17, 18, 19, 20, 21, 22, 23, 24, 25, 26, 27] [4] (fun vs hh => ∃ (i : Nat), i ≤ n ∧ vs = [.int .i64 i] ∧ Own B (RM rp N sv ev (.slice qa q.length qc) on arm a w b q (d.settle (q.take i))) hh) (fun vs _ => match vs with | [.int _ i] => n - i.toNat | _ => 0) ?_ ?_
  · exact ⟨0, by omega, rfl, o⟩
  · clear o
    rintro vs junk hh ⟨i, hi, rfl, o⟩
    unfold RM at o
    by_cases hlt : i < n
    · obtain ⟨p, hp⟩ := getx (show i < q.length by omega)
      have hpl := hq p (List.mem_of_getElem? hp)
      have ht : q.take (i + 1) = q.take i ++ [p] := by rw [List.take_add_one, hp]; rfl
      have hwi := settle_wf (q.take i) hw fun y hy => hq y (List.mem_of_mem_take hy)
      have hs : (d.settle (q.take i)).put p.1 p.2 = d.settle (q.take (i + 1)) := by
        rw [put_set (by rw [hwi.s64 p.1 hpl.1, hpl.2]), ht]
        unfold Dk.settle
        rw [List.foldl_append]
        rfl
      have hQ := o.reads 3 hR rfl
      refine Br.dec (fun c40 => ?_) (fun hc => absurd (by omega) hc)
      refine DrawVC.intro [0, 1, 2, 3, 5, 6, 7, 9, 10, 11, 13, 14, 15] [4, 8, 12, 16] [17] [0, 1, 2, 3, 4, 5, 6, 7, 8, 9, 10, 11, 12, 13, 14, 15, 16, 17] mixed (by kernel_rfl) rfl (fun _ _ _ _ h => h) ?_
      refine StillVC.nilCheck rfl ?_
      refine StillVC.fieldAddr st94 rfl rfl rfl ?_
      refine StillVC.loadO o 0 rfl ty92 rfl rfl ?_
      refine StillVC.idxN sl92 ty104 hQ rfl (by omega) (by omega) ?_
      refine StillVC.fieldAdr hQ (by omega) st104 rfl rfl rfl ?_
      refine StillVC.loadFF hQ ty3 (fun _ => rfl) rfl (by assumption) rfl ?_
      refine StillVC.nilCheck rfl ?_
      refine StillVC.fieldAddr st94 rfl rfl rfl ?_
      refine StillVC.loadO o 0 rfl ty92 rfl rfl ?_
      refine StillVC.idxN sl92 ty104 hQ rfl (by omega) (by omega) ?_
      refine StillVC.fieldAdr hQ (by omega) st104 rfl rfl rfl ?_
      refine StillVC.loadFF hQ ty9 (fun _ => rfl) rfl (by assumption) rfl ?_
      refine CallVC.ret (rset_spec B rp N p.1 sv ev _ on arm a w b q _ p.2 _ (by assumption) hwi.st hwi.el hpl.1) ?_
      rw [hs]
      rintro _ h2 ⟨rfl, o2⟩
      clear hQ o
      refine Ar.i64 (by omega) (by omega) ?_
      refine ⟨rfl, ?_⟩
      exact ⟨⟨i + 1, by omega, by simp, o2⟩, by simp only; omega⟩
    · obtain rfl : i = n := by omega
      refine Br.dec (fun hc => absurd hc (by omega)) (fun c40 => ?_)
      refine RetVC.zero rfl ?_
      exact ⟨rfl, o⟩

end Go.Proofs.YtfjajkgfgigodaaGreatDoor

/- The reference disk: Fail, count, Sync. -/
namespace Go.Proofs.YtfjajkgfgigodaaGreatDoor
open Go

/-- The reference disk in memory: one item. -/
def IsRf (rp : Nat) (d : Dk) (I : Item) : Prop := DOK d ∧ ∃ sv ev qv a w b, (∀ x, d.arm = some x → x = (a, w, b)) ∧ I = sepI (RM rp d.st.length sv ev qv (!d.off) d.arm.isSome a w b d.q d)

theorem IsRf.pack {B : Base} {rp N : Nat} {sv ev qv : Value} {on arm : Bool} {a w b : Int} {q : List (Nat × List UInt8)} {d0 : Dk} {h : Heap} (d : Dk)
    (o : Own B (RM rp N sv ev qv on arm a w b q d0) h) (hd : DOK d) (hN : N = d.st.length) (h1 : d0.st = d.st) (h2 : d0.el = d.el) (ho : on = !d.off) (ha : arm = d.arm.isSome) (hx : ∀ x, d.arm = some x → x = (a, w, b)) (hq : q = d.q) : ∃ I, IsRf rp d I ∧ Own B [I] h := by
  unfold RM at o
  rw [h1, h2] at o
  subst hN ho ha hq
  exact ⟨_, ⟨hd, sv, ev, qv, a, w, b, hx, rfl⟩, o.sep1⟩

theorem some_isSome {d : Dk} {x : Int × Int × Int} (h : d.arm = some x) : d.arm.isSome = true := by rw [h]; rfl
theorem none_isSome {d : Dk} (h : d.arm = none) : d.arm.isSome = false := by rw [h]; rfl

set_option maxHeartbeats 4000000 in
set_option maxRecDepth 100000 in
theorem rfail_spec (B : Base) (rp : Nat) (d : Dk) (I : Item) (w b : Int) (h : Heap) (hI : IsRf rp d I) (o : Own B [I] h) (hq : d.q.length ≤ 100001) :
    SpecR Tryz.prog 36 [.pointer (some ⟨rp, 0, none⟩), .int .i64 w, .int .i64 b] h fun v h' => v = .tuple #[] ∧ ∃ I', IsRf rp (d.fail w b) I' ∧ Own B [I'] h' := by
  obtain ⟨hd, sv, ev, qv, a, w0, b0, hx, rfl⟩ := hI
  have o := o.unsep1
  unfold RM at o
  refine Spec.enter Tryz.func36 rfl Tryz.ntmps36 (by kernel_rfl) ?_
  cases hoff : d.off with
  | true =>
    have e : d.fail w b = d := by unfold Dk.fail; rw [if_pos hoff]
    rw [e]
    rw [hoff, Bool.not_true] at o
    refine StillVC.run (StillVC.nilCheck rfl ?_)
    refine StillVC.run (StillVC.fieldAddr st94 rfl rfl rfl ?_)
    refine StillVC.run (StillVC.loadO o 0 rfl ty4 rfl rfl ?_)
    refine Br.tt ?_
    refine RetVC.zero rfl ?_
    exact ⟨rfl, IsRf.pack d o hd rfl rfl rfl (by rw [hoff]; rfl) rfl hx rfl⟩
  | false =>
    rw [fail_eq hoff]
    rw [hoff, Bool.not_false] at o
    generalize hn : (min (max w 0) d.q.length).toNat = n
    have hn1 : n ≤ d.q.length := by omega
    obtain ⟨qa, qc, rfl⟩ := o.rowIs 3 rfl
    obtain ⟨k1, k2⟩ := failD_dok hd n b
    have en : max 0 (min w (d.q.length : Int)) = (n : Int) := by omega
    have hw := hd.wf
    have hNle := hd.le
    have hR : Reads (row (.slice qa d.q.length qc) 104 2 d.q.length (d.q.flatMap pendR)) 2 (.slice qa d.q.length qc) d.q.length (d.q.flatMap pendR) := row_reads
    refine StillVC.run (StillVC.nilCheck rfl ?_)
    refine StillVC.run (StillVC.fieldAddr st94 rfl rfl rfl ?_)
    refine StillVC.run (StillVC.loadO o 0 rfl ty4 rfl rfl ?_)
    refine Br.ff ?_
    refine StillVC.run (StillVC.nilCheck rfl ?_)
    refine StillVC.run (StillVC.fieldAddr st94 rfl rfl rfl ?_)
    refine StillVC.run (StillVC.loadO o 0 rfl ty92 rfl rfl ?_)
    refine StillVC.run (StillVC.lenV rfl sl92 ?_)
    refine StillVC.run (StillVC.min2 rfl rfl ?_)
    refine StillVC.run (StillVC.max2 rfl rfl ?_)
    rw [en]
    refine CallVC.ret (rsettle_spec B rp _ n sv ev _ true _ a w0 b0 d.q d _ o hw hd.q hn1 (by omega)) ?_
    rintro _ h2 ⟨rfl, o2⟩
    unfold RM at o2
    clear o
    have hws := settle_wf (d.q.take n) hw fun y hy => hd.q y (List.mem_of_mem_take hy)
    by_cases hlt : n < d.q.length
    · obtain ⟨p, hp⟩ := getx hlt
      have hpl := hd.q p (List.mem_of_getElem? hp)
      have hQ := o2.reads 3 hR rfl
      by_cases hb : 0 < b
      · have e1 : failD d n b = (d.settle (d.q.take n)).set p.1 (p.2.take (min b 64).toNat) := by
          unfold failD Dk.tear
          rw [hp]
          simp only
          rw [if_pos hb]
        have e2 : max 0 (min b 64) = min b 64 := by omega
        have e3 := put_tear (d := d.settle (d.q.take n)) (k := p.1) (n := (min b 64).toNat) (t := p.2) (by rw [hpl.2]; omega)
        obtain ⟨x, hx1⟩ := getx (show p.1 < (d.settle (d.q.take n)).st.length by rw [hws.st]; exact hpl.1)
        have hx2 : (d.settle (d.q.take n)).st.getD p.1 [] = x := by rw [List.getD_eq_getElem?_getD, hx1]; rfl
        have hxl : x.length = 64 := by rw [← hx2]; exact hws.s64 p.1 hpl.1
        rw [hx2] at e3
        have hsl : (strs (d.settle (d.q.take n)).st).length = d.st.length := by simp [hws.st]
        obtain ⟨sa, sc, rfl⟩ := o2.rowIs 1 rfl
        obtain ⟨ea, ec, rfl⟩ := o2.rowIs 2 rfl
        have h64 := hpl.2
        refine StillVC.run (StillVC.nilCheck rfl ?_)
        refine StillVC.run (StillVC.fieldAddr st94 rfl rfl rfl ?_)
        refine StillVC.run (StillVC.loadO o2 0 rfl ty92 rfl rfl ?_)
        refine StillVC.run (StillVC.lenV rfl sl92 ?_)
        refine Br.dec (fun c44 => ?_) (fun hc => absurd (by omega) hc)
        refine StillVC.run (StillVC.nilCheck rfl ?_)
        refine StillVC.run (StillVC.fieldAddr st94 rfl rfl rfl ?_)
        refine StillVC.run (StillVC.loadO o2 0 rfl ty92 rfl rfl ?_)
        refine StillVC.run (StillVC.idxN sl92 ty104 hQ rfl (by omega) (by omega) ?_)
        refine StillVC.run (StillVC.loadFT ty104 hQ (fun _ => rfl) (by decide) rfl (by assumption) ?_)
        (refine RunVC.alloc o2 ty104 ?_; intro b50 m50 o50)
        (refine RunVC.storeL o50 4 rfl ty104 rfl (by decide) (And.intro ⟨rfl, rfl⟩ ?_); intro m51 o51)
        refine StillVC.run (StillVC.min2 rfl rfl ?_)
        refine StillVC.run (StillVC.max2 rfl rfl ?_)
        refine Br.dec (fun c54 => ?_) (fun hc => absurd (by omega) hc)
        refine DrawVC.intro [0, 1, 3, 5, 6, 7, 8, 9, 11, 13, 15, 16, 17] [2, 4, 10, 12, 14] [18] [0, 1, 2, 3, 4, 5, 6, 7, 8, 9, 10, 11, 12, 13, 14, 15, 16, 17, 18] mixed (by kernel_rfl) rfl (fun _ _ _ _ h => h) ?_
        refine StillVC.fieldAddr st104 rfl rfl rfl ?_
        refine StillVC.loadO o51 4 rfl ty3 rfl rfl ?_
        refine StillVC.fieldAddr st104 rfl rfl rfl ?_
        refine StillVC.loadO o51 4 rfl ty9 rfl rfl ?_
        refine StillVC.sliceS str9 rfl rfl ⟨_, rfl⟩ (by omega) (by omega) (by omega) ?_
        refine StillVC.nilCheck rfl ?_
        refine StillVC.fieldAddr st94 rfl rfl rfl ?_
        refine StillVC.loadO o51 0 rfl ty22 rfl rfl ?_
        refine StillVC.fieldAddr st104 rfl rfl rfl ?_
        refine StillVC.loadO o51 4 rfl ty3 rfl rfl ?_
        refine StillVC.idx sl22 ty9 (o51.rowArr 1 rfl) rfl (by omega) (by omega) ?_
        refine StillVC.loadM (o51.rowArr 1 rfl) ty9 rfl (by first | assumption | rfl) ?_
        refine StillVC.sliceS str9 rfl ⟨_, rfl⟩ rfl (by omega) (by omega) (by omega) ?_
        refine StillVC.strAdd rfl rfl (by first | omega | (simp; omega)) ?_
        have e4 : List.drop (Int.toNat 0) (List.take (max 0 (min b 64)).toNat p.2) ++ List.drop (max 0 (min b 64)).toNat (List.take ((x.length : Nat) : Int).toNat x) = p.2.take (min b 64).toNat ++ x.drop (min b 64).toNat := by
          rw [e2]
          simp
        rw [e4]
        refine CallVC.ret (rset_spec B rp d.st.length p.1 _ _ _ true _ a w0 b0 d.q (d.settle (d.q.take n)) (p.2.take (min b 64).toNat ++ x.drop (min b 64).toNat) _ (o51.sel [0, 1, 2, 3] rfl) hws.st hws.el hpl.1) ?_
        rw [e3]
        rintro _ h4 ⟨rfl, o4⟩
        unfold RM at o4
        clear o2 hQ
        refine StillVC.run (StillVC.nilCheck rfl ?_)
        refine StillVC.run (StillVC.fieldAddr st94 rfl rfl rfl ?_)
        (refine RunVC.store o4 0 rfl ty92 rfl (by simp) (And.intro ⟨rfl, rfl⟩ ?_); intro m82 o82)
        refine StillVC.run (StillVC.nilCheck rfl ?_)
        refine StillVC.run (StillVC.fieldAddr st94 rfl rfl rfl ?_)
        (refine RunVC.store o82 0 rfl ty4 rfl (by simp) (And.intro ⟨rfl, rfl⟩ ?_); intro m85 o85)
        refine StillVC.run (StillVC.nilCheck rfl ?_)
        refine StillVC.run (StillVC.fieldAddr st94 rfl rfl rfl ?_)
        (refine RunVC.store o85 0 rfl ty4 rfl (by simp) (And.intro ⟨rfl, rfl⟩ ?_); intro m88 o88)
        refine RetVC.zero rfl ?_
        refine ⟨rfl, IsRf.pack { failD d n b with q := [], off := true, arm := none } (Own.nilRow (Own.sel (by assumption) [0, 1, 2] rfl) 104 2) (DOK.bare k1 rfl rfl rfl (by simp)) k2.symm ?_ ?_ rfl rfl (by simp) rfl⟩
        · rw [e1]
        · rw [e1]
      · have e1 : failD d n b = d.settle (d.q.take n) := by
          unfold failD Dk.tear
          rw [hp]
          simp only
          rw [if_neg hb]
        refine StillVC.run (StillVC.nilCheck rfl ?_)
        refine StillVC.run (StillVC.fieldAddr st94 rfl rfl rfl ?_)
        refine StillVC.run (StillVC.loadO o2 0 rfl ty92 rfl rfl ?_)
        refine StillVC.run (StillVC.lenV rfl sl92 ?_)
        refine Br.dec (fun c44 => ?_) (fun hc => absurd (by omega) hc)
        refine StillVC.run (StillVC.nilCheck rfl ?_)
        refine StillVC.run (StillVC.fieldAddr st94 rfl rfl rfl ?_)
        refine StillVC.run (StillVC.loadO o2 0 rfl ty92 rfl rfl ?_)
        refine StillVC.run (StillVC.idxN sl92 ty104 hQ rfl (by omega) (by omega) ?_)
        refine StillVC.run (StillVC.loadFT ty104 hQ (fun _ => rfl) (by decide) rfl (by assumption) ?_)
        (refine RunVC.alloc o2 ty104 ?_; intro b50 m50 o50)
        (refine RunVC.storeL o50 4 rfl ty104 rfl (by decide) (And.intro ⟨rfl, rfl⟩ ?_); intro m51 o51)
        refine StillVC.run (StillVC.min2 rfl rfl ?_)
        refine StillVC.run (StillVC.max2 rfl rfl ?_)
        refine Br.dec (fun hc => absurd hc (by omega)) (fun c54 => ?_)
        refine StillVC.run (StillVC.nilCheck rfl ?_)
        refine StillVC.run (StillVC.fieldAddr st94 rfl rfl rfl ?_)
        (refine RunVC.store o51 0 rfl ty92 rfl (by simp) (And.intro ⟨rfl, rfl⟩ ?_); intro m57 o57)
        refine StillVC.run (StillVC.nilCheck rfl ?_)
        refine StillVC.run (StillVC.fieldAddr st94 rfl rfl rfl ?_)
        (refine RunVC.store o57 0 rfl ty4 rfl (by simp) (And.intro ⟨rfl, rfl⟩ ?_); intro m60 o60)
        refine StillVC.run (StillVC.nilCheck rfl ?_)
        refine StillVC.run (StillVC.fieldAddr st94 rfl rfl rfl ?_)
        (refine RunVC.store o60 0 rfl ty4 rfl (by simp) (And.intro ⟨rfl, rfl⟩ ?_); intro m63 o63)
        refine RetVC.zero rfl ?_
        exact ⟨rfl, IsRf.pack _ (Own.nilRow (Own.sel (by assumption) [0, 1, 2] rfl) 104 2) (DOK.bare k1 rfl rfl rfl (by simp)) k2.symm (by rw [e1]) (by rw [e1]) rfl rfl (by simp) rfl⟩
    · have hp : d.q[n]? = none := by simp; omega
      have e1 : failD d n b = d.settle (d.q.take n) := by
        unfold failD Dk.tear
        rw [hp]
      refine StillVC.run (StillVC.nilCheck rfl ?_)
      refine StillVC.run (StillVC.fieldAddr st94 rfl rfl rfl ?_)
      refine StillVC.run (StillVC.loadO o2 0 rfl ty92 rfl rfl ?_)
      refine StillVC.run (StillVC.lenV rfl sl92 ?_)
      refine Br.dec (fun hc => absurd hc (by omega)) (fun c44 => ?_)
      refine StillVC.run (StillVC.nilCheck rfl ?_)
      refine StillVC.run (StillVC.fieldAddr st94 rfl rfl rfl ?_)
      (refine RunVC.store o2 0 rfl ty92 rfl (by simp) (And.intro ⟨rfl, rfl⟩ ?_); intro m47 o47)
      refine StillVC.run (StillVC.nilCheck rfl ?_)
      refine StillVC.run (StillVC.fieldAddr st94 rfl rfl rfl ?_)
      (refine RunVC.store o47 0 rfl ty4 rfl (by simp) (And.intro ⟨rfl, rfl⟩ ?_); intro m50 o50)
      refine StillVC.run (StillVC.nilCheck rfl ?_)
      refine StillVC.run (StillVC.fieldAddr st94 rfl rfl rfl ?_)
      (refine RunVC.store o50 0 rfl ty4 rfl (by simp) (And.intro ⟨rfl, rfl⟩ ?_); intro m53 o53)
      refine RetVC.zero rfl ?_
      exact ⟨rfl, IsRf.pack _ (Own.nilRow (Own.sel (by assumption) [0, 1, 2] rfl) 104 2) (DOK.bare k1 rfl rfl rfl (by simp)) k2.symm (by rw [e1]) (by rw [e1]) rfl rfl (by simp) rfl⟩

set_option maxHeartbeats 4000000 in
set_option maxRecDepth 100000 in
theorem rcount_spec (B : Base) (rp : Nat) (d : Dk) (I : Item) (h : Heap) (hI : IsRf rp d I) (o : Own B [I] h) (hq : d.q.length ≤ 100001) :
    SpecR Tryz.prog 134 [.pointer (some ⟨rp, 0, none⟩)] h fun v h' => v = .int .i64 d.count.1 ∧ ∃ I', IsRf rp d.count.2 I' ∧ Own B [I'] h' := by
  have hI0 := hI
  have o0 := o
  obtain ⟨hd, sv, ev, qv, a, w0, b0, hx, hIe⟩ := hI
  have o1 := o
  rw [hIe] at o1
  have o := o1.unsep1
  unfold RM at o
  clear o1
  refine Spec.enter Tryz.func134 rfl Tryz.ntmps134 (by kernel_rfl) ?_
  unfold Dk.count
  cases ha : d.arm with
  | none =>
    rw [none_isSome ha] at o
    clear o0
    refine StillVC.run (StillVC.nilCheck rfl ?_)
    refine StillVC.run (StillVC.fieldAddr st94 rfl rfl rfl ?_)
    refine StillVC.run (StillVC.loadO o 0 rfl ty4 rfl rfl ?_)
    refine Br.tt ?_
    refine RetVC.one rfl ?_
    exact ⟨rfl, IsRf.pack d o hd rfl rfl rfl rfl (by rw [ha]; rfl) hx rfl⟩
  | some x =>
    rw [some_isSome ha] at o
    have hx0 := hx x ha
    subst hx0
    have hpos := hd.arm _ ha
    simp only at hpos ⊢
    by_cases hp : 0 < a
    · rw [if_pos hp]
      clear o0
      refine StillVC.run (StillVC.nilCheck rfl ?_)
      refine StillVC.run (StillVC.fieldAddr st94 rfl rfl rfl ?_)
      refine StillVC.run (StillVC.loadO o 0 rfl ty4 rfl rfl ?_)
      refine Br.ff ?_
      refine StillVC.run (StillVC.nilCheck rfl ?_)
      refine StillVC.run (StillVC.fieldAddr st94 rfl rfl rfl ?_)
      refine StillVC.run (StillVC.loadO o 0 rfl ty3 rfl rfl ?_)
      refine Br.dec (fun hc => absurd hc (by omega)) (fun c26 => ?_)
      refine StillVC.run (StillVC.nilCheck rfl ?_)
      refine StillVC.run (StillVC.fieldAddr st94 rfl rfl rfl ?_)
      refine StillVC.run (StillVC.loadO o 0 rfl ty3 rfl rfl ?_)
      refine Ar.i64 (by omega) (by omega) ?_
      refine StillVC.run (StillVC.nilCheck rfl ?_)
      refine StillVC.run (StillVC.fieldAddr st94 rfl rfl rfl ?_)
      (refine RunVC.store o 0 rfl ty3 rfl (by simp) (And.intro ⟨rfl, rfl⟩ ?_); intro m32 o32)
      refine RetVC.one rfl ?_
      refine ⟨rfl, IsRf.pack { d with arm := some (a - 1, w0, b0) } (by assumption) ⟨hd.wf.keep rfl rfl, hd.le, hd.q, ?_⟩ rfl rfl rfl rfl rfl (by simp) rfl⟩
      intro x hx'
      cases hx'
      exact ⟨by show 0 ≤ a - 1; omega, by show a - 1 < _; omega⟩
    · rw [if_neg hp]
      obtain rfl : a = 0 := by omega
      refine StillVC.run (StillVC.nilCheck rfl ?_)
      refine StillVC.run (StillVC.fieldAddr st94 rfl rfl rfl ?_)
      refine StillVC.run (StillVC.loadO o 0 rfl ty4 rfl rfl ?_)
      refine Br.ff ?_
      refine StillVC.run (StillVC.nilCheck rfl ?_)
      refine StillVC.run (StillVC.fieldAddr st94 rfl rfl rfl ?_)
      refine StillVC.run (StillVC.loadO o 0 rfl ty3 rfl rfl ?_)
      refine Br.tt ?_
      refine DrawVC.intro [0, 1, 2, 3, 5, 6, 7] [4, 8] [9] [0, 1, 2, 3, 4, 5, 6, 7, 8, 9] mixed (by kernel_rfl) rfl (fun _ _ _ _ h => h) ?_
      refine StillVC.nilCheck rfl ?_
      refine StillVC.fieldAddr st94 rfl rfl rfl ?_
      refine StillVC.loadO o 0 rfl ty3 rfl rfl ?_
      refine StillVC.nilCheck rfl ?_
      refine StillVC.fieldAddr st94 rfl rfl rfl ?_
      refine StillVC.loadO o 0 rfl ty3 rfl rfl ?_
      refine CallVC.ret (rfail_spec B rp d I w0 b0 _ hI0 o0 hq) ?_
      rintro _ h2 ⟨rfl, hres⟩
      clear o o0
      refine RetVC.one rfl ?_
      exact ⟨rfl, hres⟩

theorem count_q {d : Dk} : d.count.2.q.length ≤ d.q.length ∧ (d.count.1 = 0 ∨ d.count.1 = 19) := by
  unfold Dk.count
  split
  · exact ⟨Nat.le_refl _, .inl rfl⟩
  · split
    · exact ⟨Nat.le_refl _, .inl rfl⟩
    · refine ⟨?_, .inr rfl⟩
      unfold Dk.fail
      simp only
      split <;> simp

set_option maxHeartbeats 4000000 in
set_option maxRecDepth 100000 in
theorem rsync_spec (B : Base) (rp : Nat) (d : Dk) (I : Item) (h : Heap) (hI : IsRf rp d I) (o : Own B [I] h) (hq : d.q.length ≤ 100000) :
    SpecR Tryz.prog 121 [.pointer (some ⟨rp, 0, none⟩)] h fun v h' => v = .int .i64 d.sync.1 ∧ ∃ I', IsRf rp d.sync.2 I' ∧ Own B [I'] h' := by
  have hI0 := hI
  have o0 := o
  obtain ⟨hd, sv, ev, qv, a, w0, b0, hx, hIe⟩ := hI
  rw [hIe] at o
  have o := o.unsep1
  unfold RM at o
  refine Spec.enter Tryz.func121 rfl Tryz.ntmps121 (by kernel_rfl) ?_
  unfold Dk.sync
  cases hoff : d.off with
  | true =>
    rw [if_pos rfl]
    rw [hoff, Bool.not_true] at o
    clear o0
    refine StillVC.run (StillVC.nilCheck rfl ?_)
    refine StillVC.run (StillVC.fieldAddr st94 rfl rfl rfl ?_)
    refine StillVC.run (StillVC.loadO o 0 rfl ty4 rfl rfl ?_)
    refine Br.tt ?_
    refine RetVC.one rfl ?_
    exact ⟨rfl, IsRf.pack d o hd rfl rfl rfl (by rw [hoff]; rfl) rfl hx rfl⟩
  | false =>
    rw [if_neg (show ¬ (false = true) by decide)]
    rw [hoff, Bool.not_false] at o
    refine StillVC.run (StillVC.nilCheck rfl ?_)
    refine StillVC.run (StillVC.fieldAddr st94 rfl rfl rfl ?_)
    refine StillVC.run (StillVC.loadO o 0 rfl ty4 rfl rfl ?_)
    refine Br.ff ?_
    refine CallVC.ret (rcount_spec B rp d I _ hI0 o0 (by omega)) ?_
    clear o o0
    obtain ⟨cq1, cq2⟩ := @count_q d
    generalize d.count = c at cq1 cq2 ⊢
    obtain ⟨e, d1⟩ := c
    simp only at cq1 cq2 ⊢
    rintro _ h2 ⟨rfl, I2, hI2, o2⟩
    by_cases he : e = 0
    · subst he
      rw [if_neg (by decide)]
      obtain ⟨hd2, sv2, ev2, qv2, a2, w2, b2, hx2, rfl⟩ := hI2
      have o2 := o2.unsep1
      unfold RM at o2
      obtain ⟨qa, qc, rfl⟩ := o2.rowIs 3 rfl
      refine Br.ff ?_
      refine StillVC.run (StillVC.nilCheck rfl ?_)
      refine StillVC.run (StillVC.fieldAddr st94 rfl rfl rfl ?_)
      refine StillVC.run (StillVC.loadO o2 0 rfl ty92 rfl rfl ?_)
      refine StillVC.run (StillVC.lenV rfl sl92 ?_)
      refine CallVC.ret (rsettle_spec B rp _ d1.q.length sv2 ev2 _ _ _ a2 w2 b2 d1.q d1 _ o2 hd2.wf hd2.q (Nat.le_refl _) (by omega)) ?_
      rw [List.take_length]
      rintro _ h4 ⟨rfl, o4⟩
      unfold RM at o4
      clear o2
      refine StillVC.run (StillVC.nilCheck rfl ?_)
      refine StillVC.run (StillVC.fieldAddr st94 rfl rfl rfl ?_)
      (refine RunVC.store o4 0 rfl ty92 rfl (by simp) (And.intro ⟨rfl, rfl⟩ ?_); intro m62 o62)
      refine RetVC.one rfl ?_
      have hs := settle_dok d1.q hd2 hd2.q
      obtain ⟨g1, g2, g3⟩ := settle_fields d1.q d1
      refine ⟨rfl, IsRf.pack { d1.settle d1.q with q := [] } (Own.nilRow (Own.sel (by assumption) [0, 1, 2] rfl) 104 2) (DOK.bare hs rfl rfl rfl ?_) (settle_len _ _).symm rfl rfl (by show _ = !(d1.settle d1.q).off; rw [g2]) (by show _ = (d1.settle d1.q).arm.isSome; rw [g3]) ?_ rfl⟩
      · show ∀ x, (d1.settle d1.q).arm = some x → _
        rw [g3]; exact hd2.arm
      · show ∀ x, (d1.settle d1.q).arm = some x → _
        rw [g3]; exact hx2
    · rw [if_pos he]
      have he19 : e = 19 := by omega
      subst he19
      refine Br.tt ?_
      refine RetVC.one rfl ?_
      exact ⟨rfl, I2, hI2, o2⟩

end Go.Proofs.YtfjajkgfgigodaaGreatDoor

/- The reference disk: Write, Read, Start, Arm, Stale. -/
namespace Go.Proofs.YtfjajkgfgigodaaGreatDoor
open Go

theorem lastQ_snoc (q : List (Nat × List UInt8)) (p : Nat × List UInt8) (s : Nat) : lastQ (q ++ [p]) s = if p.1 = s then some p.2 else lastQ q s := by
  unfold lastQ
  rw [List.reverse_append, List.reverse_singleton, List.singleton_append, List.find?_cons]
  by_cases h : p.1 = s
  · rw [if_pos h, show (p.1 == s) = true from by simpa using h]
    rfl
  · rw [if_neg h, show (p.1 == s) = false from by simpa using h]

set_option maxHeartbeats 4000000 in
set_option maxRecDepth 100000 in
theorem rwrite_spec (B : Base) (rp : Nat) (d : Dk) (I : Item) (s : Int) (t : List UInt8) (h : Heap) (hI : IsRf rp d I) (o : Own B [I] h) (hq : d.q.length ≤ 100000) (_hts : t.length ≤ 1000000000) :
    SpecR Tryz.prog 120 [.pointer (some ⟨rp, 0, none⟩), .int .i64 s, .string ⟨⟨t⟩⟩] h fun v h' => v = .int .i64 (d.write s t).1 ∧ ∃ I', IsRf rp (d.write s t).2 I' ∧ Own B [I'] h' := by
  obtain ⟨hd, sv, ev, qv, a, w0, b0, hx, rfl⟩ := hI
  have o := o.unsep1
  unfold RM at o
  obtain ⟨sa, sc, rfl⟩ := o.rowIs 1 rfl
  obtain ⟨qa, qc, rfl⟩ := o.rowIs 3 rfl
  have hsz : (⟨⟨t⟩⟩ : ByteArray).size = t.length := rfl
  have hN := hd.le
  have hql := pendR_len d.q
  refine Spec.enter Tryz.func120 rfl Tryz.ntmps120 (by kernel_rfl) ?_
  unfold Dk.write
  cases hoff : d.off with
  | true =>
    rw [if_pos rfl]
    rw [hoff, Bool.not_true] at o
    refine StillVC.run (StillVC.nilCheck rfl ?_)
    refine StillVC.run (StillVC.fieldAddr st94 rfl rfl rfl ?_)
    refine StillVC.run (StillVC.loadO o 0 rfl ty4 rfl rfl ?_)
    refine Br.tt ?_
    refine RetVC.one rfl ?_
    exact ⟨rfl, IsRf.pack d o hd rfl rfl rfl (by rw [hoff]; rfl) rfl hx rfl⟩
  | false =>
    rw [if_neg (show ¬ (false = true) by decide)]
    rw [hoff, Bool.not_false] at o
    have done1 : Own B (RM rp d.st.length (.slice sa d.st.length sc) ev (.slice qa d.q.length qc) true d.arm.isSome a w0 b0 d.q d) h → ∃ I', IsRf rp d I' ∧ Own B [I'] h := fun o => IsRf.pack d o hd rfl rfl rfl (by rw [hoff]; rfl) rfl hx rfl
    by_cases hin : 0 ≤ s ∧ s < d.st.length
    · by_cases h64 : t.length = 64
      · rw [if_neg (by omega)]
        obtain ⟨k, rfl⟩ : ∃ k : Nat, s = k := ⟨s.toNat, by omega⟩
        have hk : k < d.st.length := by omega
        refine StillVC.run (StillVC.nilCheck rfl ?_)
        refine StillVC.run (StillVC.fieldAddr st94 rfl rfl rfl ?_)
        refine StillVC.run (StillVC.loadO o 0 rfl ty4 rfl rfl ?_)
        refine Br.ff ?_
        refine Br.dec (fun hc => absurd hc (by omega)) (fun c63 => ?_)
        refine StillVC.run (StillVC.nilCheck rfl ?_)
        refine StillVC.run (StillVC.fieldAddr st94 rfl rfl rfl ?_)
        refine StillVC.run (StillVC.loadO o 0 rfl ty22 rfl rfl ?_)
        refine StillVC.run (StillVC.lenV rfl sl22 ?_)
        refine Br.dec (fun hc => absurd hc (by omega)) (fun c68 => ?_)
        refine StillVC.run (StillVC.lenS rfl str9 ?_)
        refine Br.ndec (fun hc => absurd (by first | omega | assumption | decide | exact rfl) hc) (fun c70 => ?_)
        refine StillVC.run (StillVC.nilCheck rfl ?_)
        refine StillVC.run (StillVC.fieldAddr st94 rfl rfl rfl ?_)
        refine StillVC.run (StillVC.loadO o 0 rfl ty92 rfl rfl ?_)
        refine StillVC.run (StillVC.buildK st104 ?_)
        refine And.intro rfl ?_
        refine And.intro rfl ?_
        (refine RunVC.litN o sl92 ty104 rfl rfl (by decide) ?_)
        refine And.intro rfl ?_
        intro b76 m76 o76
        refine RunVC.append o76 3 rfl sl92 ty104 (by decide) (Own.boxArrN o76 4 rfl (n := 1) rfl (by omega)) (by simp [Value.oneCell']) (by simp only [maxLen]; omega) (by omega) ?_
        intro v77 m77 o77
        obtain ⟨xa, xc, rfl⟩ := o77.rowIs 3 rfl
        refine StillVC.run (StillVC.nilCheck rfl ?_)
        refine StillVC.run (StillVC.fieldAddr st94 rfl rfl rfl ?_)
        (refine RunVC.store o77 0 rfl ty92 rfl (by simp) (And.intro ⟨rfl, rfl⟩ ?_); intro m82 o82)
        have hd1 : DOK ({ d with off := false, q := d.q ++ [((k : Int).toNat, t)] } : Dk) := ⟨hd.wf.keep rfl rfl, hd.le, fun p hp => by
          rcases List.mem_append.1 hp with hp | hp
          · exact hd.q p hp
          · rw [List.mem_singleton.1 hp]; exact ⟨hk, h64⟩, hd.arm⟩
        have e1 : (d.q ++ [((k : Int).toNat, t)]).flatMap pendR = d.q.flatMap pendR ++ [Value.int IntKind.i64 (k : Int), Value.string ⟨⟨t⟩⟩] := by simp [pendR]
        have e2 : (d.q ++ [((k : Int).toNat, t)]).length = d.q.length + 1 := by simp
        have o9 := Own.sel (by assumption) [0, 1, 2, 3] rfl
        obtain ⟨I1, hI1, o1⟩ := IsRf.pack (rp := rp) (N := d.st.length) (sv := .slice sa d.st.length sc) (ev := ev) (qv := _) (on := true) (arm := d.arm.isSome) (a := a) (w := w0) (b := b0) (q := d.q ++ [((k : Int).toNat, t)]) (d0 := d) { d with off := false, q := d.q ++ [((k : Int).toNat, t)] } (by simp only [RM]; rw [e1, e2]; exact o9) hd1 rfl rfl rfl rfl rfl hx rfl
        refine CallVC.ret (rcount_spec _ rp _ I1 _ hI1 o1 (by simp only [e2]; omega)) ?_
        rintro v h3 ⟨rfl, hres⟩
        clear o76 o77 o9
        refine RetVC.one rfl ?_
        exact ⟨rfl, hres⟩
      · rw [if_pos (by omega)]
        refine StillVC.run (StillVC.nilCheck rfl ?_)
        refine StillVC.run (StillVC.fieldAddr st94 rfl rfl rfl ?_)
        refine StillVC.run (StillVC.loadO o 0 rfl ty4 rfl rfl ?_)
        refine Br.ff ?_
        refine Br.dec (fun hc => absurd hc (by omega)) (fun c63 => ?_)
        refine StillVC.run (StillVC.nilCheck rfl ?_)
        refine StillVC.run (StillVC.fieldAddr st94 rfl rfl rfl ?_)
        refine StillVC.run (StillVC.loadO o 0 rfl ty22 rfl rfl ?_)
        refine StillVC.run (StillVC.lenV rfl sl22 ?_)
        refine Br.dec (fun hc => absurd hc (by omega)) (fun c68 => ?_)
        refine StillVC.run (StillVC.lenS rfl str9 ?_)
        refine Br.ndec (fun c70 => ?_) (fun hc => absurd hc (by first | omega | assumption | decide | exact rfl))
        refine RetVC.one rfl ?_
        exact ⟨rfl, done1 o⟩
    · rw [if_pos (by omega)]
      by_cases h0 : s < 0
      · refine StillVC.run (StillVC.nilCheck rfl ?_)
        refine StillVC.run (StillVC.fieldAddr st94 rfl rfl rfl ?_)
        refine StillVC.run (StillVC.loadO o 0 rfl ty4 rfl rfl ?_)
        refine Br.ff ?_
        refine Br.dec (fun c63 => ?_) (fun hc => absurd (by omega) hc)
        refine Br.tt ?_
        refine RetVC.one rfl ?_
        exact ⟨rfl, done1 o⟩
      · have h1 : (d.st.length : Int) ≤ s := by omega
        clear hin
        refine StillVC.run (StillVC.nilCheck rfl ?_)
        refine StillVC.run (StillVC.fieldAddr st94 rfl rfl rfl ?_)
        refine StillVC.run (StillVC.loadO o 0 rfl ty4 rfl rfl ?_)
        refine Br.ff ?_
        refine Br.dec (fun hc => absurd hc (by omega)) (fun c63 => ?_)
        refine StillVC.run (StillVC.nilCheck rfl ?_)
        refine StillVC.run (StillVC.fieldAddr st94 rfl rfl rfl ?_)
        refine StillVC.run (StillVC.loadO o 0 rfl ty22 rfl rfl ?_)
        refine StillVC.run (StillVC.lenV rfl sl22 ?_)
        refine Br.dec (fun c68 => ?_) (fun hc => absurd (by omega) hc)
        refine Br.tt ?_
        refine RetVC.one rfl ?_
        exact ⟨rfl, done1 o⟩

set_option maxHeartbeats 4000000 in
set_option maxRecDepth 100000 in
theorem rread_spec (B : Base) (rp : Nat) (d : Dk) (I : Item) (s : Int) (h : Heap) (hI : IsRf rp d I) (o : Own B [I] h) (hq : d.q.length ≤ 1000000) :
    SpecR Tryz.prog 41 [.pointer (some ⟨rp, 0, none⟩), .int .i64 s] h fun v h' => v = .tuple ⟨[.string ⟨⟨(d.read s).1⟩⟩, .int .i64 (d.read s).2]⟩ ∧ Own h [] h' := by
  obtain ⟨hd, sv, ev, qv, a, w0, b0, hx, rfl⟩ := hI
  have oo := o.unsep1
  unfold RM at oo
  obtain ⟨sa, sc, rfl⟩ := oo.rowIs 1 rfl
  obtain ⟨qa, qc, rfl⟩ := oo.rowIs 3 rfl
  have hc0 : cellAt h ⟨rp, 0, none⟩ = some (.slice sa d.st.length sc) := oo.cellB 0 rfl 0
  have hc2 : cellAt h ⟨rp, 2, none⟩ = some (.slice qa d.q.length qc) := oo.cellB 0 rfl 2
  have hc3 : cellAt h ⟨rp, 3, none⟩ = some (.bool (!d.off)) := oo.cellB 0 rfl 3
  have hA := oo.rowArr 1 rfl
  have hR : Reads (row (.slice qa d.q.length qc) 104 2 d.q.length (d.q.flatMap pendR)) 2 (.slice qa d.q.length qc) d.q.length (d.q.flatMap pendR) := row_reads
  have hQ := oo.reads 3 hR rfl
  clear oo hR o
  have hsl : (strs d.st).length = d.st.length := by simp
  have hql := pendR_len d.q
  have hN := hd.le
  have o0 := Own.refl h
  refine Spec.enter Tryz.func41 rfl Tryz.ntmps41 (by kernel_rfl) ?_
  unfold Dk.read
  cases hoff : d.off with
  | true =>
    rw [if_pos rfl]
    rw [hoff, Bool.not_true] at hc3
    refine StillVC.run (StillVC.nilCheck rfl ?_)
    refine StillVC.run (StillVC.fieldAddr st94 rfl rfl rfl ?_)
    refine StillVC.run (StillVC.load1 ty4 rfl (by assumption) ?_)
    refine Br.tt ?_
    refine RetVC.two rfl ?_
    exact ⟨rfl, o0⟩
  | false =>
    rw [if_neg (show ¬ (false = true) by decide)]
    rw [hoff, Bool.not_false] at hc3
    by_cases hin : 0 ≤ s ∧ s < d.st.length
    · rw [if_neg (by omega)]
      obtain ⟨k, rfl⟩ : ∃ k : Nat, s = k := ⟨s.toNat, by omega⟩
      have hk : k < d.st.length := by omega
      obtain ⟨x, hx1⟩ := getx hk
      have hx2 : d.st.getD k [] = x := by rw [List.getD_eq_getElem?_getD, hx1]; rfl
      refine StillVC.run (StillVC.nilCheck rfl ?_)
      refine StillVC.run (StillVC.fieldAddr st94 rfl rfl rfl ?_)
      refine StillVC.run (StillVC.load1 ty4 rfl (by assumption) ?_)
      refine Br.ff ?_
      refine Br.dec (fun hc => absurd hc (by omega)) (fun c63 => ?_)
      refine StillVC.run (StillVC.nilCheck rfl ?_)
      refine StillVC.run (StillVC.fieldAddr st94 rfl rfl rfl ?_)
      refine StillVC.run (StillVC.load1 ty22 rfl (by assumption) ?_)
      refine StillVC.run (StillVC.lenV rfl sl22 ?_)
      refine Br.dec (fun hc => absurd hc (by omega)) (fun c68 => ?_)
      refine StillVC.run (StillVC.nilCheck rfl ?_)
      refine StillVC.run (StillVC.fieldAddr st94 rfl rfl rfl ?_)
      refine StillVC.run (StillVC.load1 ty22 rfl (by assumption) ?_)
      refine StillVC.run (StillVC.idx sl22 ty9 hA rfl (by omega) (by omega) ?_)
      refine StillVC.run (StillVC.loadM hA ty9 rfl (by first | assumption | rfl) ?_)
      refine LoopVC.intro [6, 7, 31, 32, 33, 34, 35, 36, 37, 38, 39, 40, 41, 42, 43, 44, 45, 46, 47, 48, 49, 50, 51, 52, 53, 54, 55, 56, 57] [6, 7] (fun vs hh => ∃ (i : Nat), i ≤ d.q.length ∧ vs = [.string ⟨⟨(lastQ (d.q.take i) k).getD x⟩⟩, .int .i64 i] ∧ Own h [] hh) (fun vs _ => match vs with | [_, .int _ i] => d.q.length - i.toNat | _ => 0) ?_ ?_
      · exact ⟨0, by omega, rfl, o0⟩
      · clear o0
        rintro vs junk hh ⟨i, hi, rfl, o⟩
        have hQ2 := hQ.ext o.ext
        by_cases hlt : i < d.q.length
        · obtain ⟨p, hp⟩ := getx hlt
          have ht : d.q.take (i + 1) = d.q.take i ++ [p] := by rw [List.take_add_one, hp]; rfl
          have hs := lastQ_snoc (d.q.take i) p k
          rw [← ht] at hs
          by_cases hpk : p.1 = k
          · rw [if_pos hpk] at hs
            refine StillVC.run (StillVC.nilCheck rfl ?_)
            refine StillVC.run (StillVC.fieldAddr st94 rfl rfl rfl ?_)
            refine StillVC.run (StillVC.load1 ty92 rfl (o.old hc2) ?_)
            refine StillVC.run (StillVC.lenV rfl sl92 ?_)
            refine Br.dec (fun c84 => ?_) (fun hc => absurd (by omega) hc)
            refine StillVC.run (StillVC.nilCheck rfl ?_)
            refine StillVC.run (StillVC.fieldAddr st94 rfl rfl rfl ?_)
            refine StillVC.run (StillVC.load1 ty92 rfl (o.old hc2) ?_)
            refine StillVC.run (StillVC.idxN sl92 ty104 hQ2 rfl (by omega) (by omega) ?_)
            refine StillVC.run (StillVC.fieldAdr hQ2 (by omega) st104 rfl rfl rfl ?_)
            refine StillVC.run (StillVC.loadFF hQ2 ty3 (fun _ => rfl) rfl (by assumption) rfl ?_)
            refine Br.dec (fun c91 => ?_) (fun hc => absurd (by omega) hc)
            refine StillVC.run (StillVC.nilCheck rfl ?_)
            refine StillVC.run (StillVC.fieldAddr st94 rfl rfl rfl ?_)
            refine StillVC.run (StillVC.load1 ty92 rfl (o.old hc2) ?_)
            refine StillVC.run (StillVC.idxN sl92 ty104 hQ2 rfl (by omega) (by omega) ?_)
            refine StillVC.run (StillVC.fieldAdr hQ2 (by omega) st104 rfl rfl rfl ?_)
            refine StillVC.run (StillVC.loadFF hQ2 ty9 (fun _ => rfl) rfl (by assumption) rfl ?_)
            refine Ar.i64 (by omega) (by omega) ?_
            refine ⟨rfl, ?_⟩
            exact ⟨⟨i + 1, by omega, by rw [hs]; rfl, o⟩, by simp only; omega⟩
          · rw [if_neg hpk] at hs
            refine StillVC.run (StillVC.nilCheck rfl ?_)
            refine StillVC.run (StillVC.fieldAddr st94 rfl rfl rfl ?_)
            refine StillVC.run (StillVC.load1 ty92 rfl (o.old hc2) ?_)
            refine StillVC.run (StillVC.lenV rfl sl92 ?_)
            refine Br.dec (fun c84 => ?_) (fun hc => absurd (by omega) hc)
            refine StillVC.run (StillVC.nilCheck rfl ?_)
            refine StillVC.run (StillVC.fieldAddr st94 rfl rfl rfl ?_)
            refine StillVC.run (StillVC.load1 ty92 rfl (o.old hc2) ?_)
            refine StillVC.run (StillVC.idxN sl92 ty104 hQ2 rfl (by omega) (by omega) ?_)
            refine StillVC.run (StillVC.fieldAdr hQ2 (by omega) st104 rfl rfl rfl ?_)
            refine StillVC.run (StillVC.loadFF hQ2 ty3 (fun _ => rfl) rfl (by assumption) rfl ?_)
            refine Br.dec (fun hc => absurd hc (by omega)) (fun c91 => ?_)
            refine Ar.i64 (by omega) (by omega) ?_
            refine ⟨rfl, ?_⟩
            exact ⟨⟨i + 1, by omega, by rw [hs]; rfl, o⟩, by simp only; omega⟩
        · obtain rfl : i = d.q.length := by omega
          refine StillVC.run (StillVC.nilCheck rfl ?_)
          refine StillVC.run (StillVC.fieldAddr st94 rfl rfl rfl ?_)
          refine StillVC.run (StillVC.load1 ty92 rfl (o.old hc2) ?_)
          refine StillVC.run (StillVC.lenV rfl sl92 ?_)
          refine Br.dec (fun hc => absurd hc (by omega)) (fun c84 => ?_)
          refine RetVC.two rfl ?_
          refine ⟨?_, o⟩
          rw [List.take_length, ← hx2]
          rfl
    · rw [if_pos (by omega)]
      by_cases h0 : s < 0
      · refine StillVC.run (StillVC.nilCheck rfl ?_)
        refine StillVC.run (StillVC.fieldAddr st94 rfl rfl rfl ?_)
        refine StillVC.run (StillVC.load1 ty4 rfl (by assumption) ?_)
        refine Br.ff ?_
        refine Br.dec (fun c63 => ?_) (fun hc => absurd (by omega) hc)
        refine Br.tt ?_
        refine RetVC.two rfl ?_
        exact ⟨rfl, o0⟩
      · have h1 : (d.st.length : Int) ≤ s := by omega
        clear hin
        refine StillVC.run (StillVC.nilCheck rfl ?_)
        refine StillVC.run (StillVC.fieldAddr st94 rfl rfl rfl ?_)
        refine StillVC.run (StillVC.load1 ty4 rfl (by assumption) ?_)
        refine Br.ff ?_
        refine Br.dec (fun hc => absurd hc (by omega)) (fun c63 => ?_)
        refine StillVC.run (StillVC.nilCheck rfl ?_)
        refine StillVC.run (StillVC.fieldAddr st94 rfl rfl rfl ?_)
        refine StillVC.run (StillVC.load1 ty22 rfl (by assumption) ?_)
        refine StillVC.run (StillVC.lenV rfl sl22 ?_)
        refine Br.dec (fun c68 => ?_) (fun hc => absurd (by omega) hc)
        refine RetVC.two rfl ?_
        exact ⟨rfl, o0⟩

set_option maxHeartbeats 4000000 in
set_option maxRecDepth 100000 in
theorem rstart_spec (B : Base) (rp : Nat) (d : Dk) (I : Item) (h : Heap) (hI : IsRf rp d I) (o : Own B [I] h) :
    SpecR Tryz.prog 37 [.pointer (some ⟨rp, 0, none⟩)] h fun v h' => v = .tuple #[] ∧ ∃ I', IsRf rp d.start I' ∧ Own B [I'] h' := by
  obtain ⟨hd, sv, ev, qv, a, w0, b0, hx, rfl⟩ := hI
  have o := o.unsep1
  unfold RM at o
  refine Spec.enter Tryz.func37 rfl Tryz.ntmps37 (by kernel_rfl) ?_
  refine StillVC.run (StillVC.nilCheck rfl ?_)
  refine StillVC.run (StillVC.fieldAddr st94 rfl rfl rfl ?_)
  (refine RunVC.store o 0 rfl ty4 rfl (by simp) (And.intro ⟨rfl, rfl⟩ ?_); intro m22 o22)
  refine StillVC.run (StillVC.nilCheck rfl ?_)
  refine StillVC.run (StillVC.fieldAddr st94 rfl rfl rfl ?_)
  (refine RunVC.store o22 0 rfl ty4 rfl (by simp) (And.intro ⟨rfl, rfl⟩ ?_); intro m25 o25)
  refine RetVC.zero rfl ?_
  exact ⟨rfl, IsRf.pack d.start (Own.sel (by assumption) [0, 1, 2, 3] rfl) ⟨hd.wf.keep rfl rfl, hd.le, hd.q, by simp [Dk.start]⟩ rfl rfl rfl rfl rfl (by simp [Dk.start]) rfl⟩

set_option maxHeartbeats 4000000 in
set_option maxRecDepth 100000 in
theorem rarm_spec (B : Base) (rp : Nat) (d : Dk) (I : Item) (a w b : Int) (h : Heap) (hI : IsRf rp d I) (o : Own B [I] h) (ha : a < 9223372036854775808) :
    SpecR Tryz.prog 38 [.pointer (some ⟨rp, 0, none⟩), .int .i64 a, .int .i64 w, .int .i64 b] h fun v h' => v = .tuple #[] ∧ ∃ I', IsRf rp (d.armed a w b) I' ∧ Own B [I'] h' := by
  obtain ⟨hd, sv, ev, qv, a0, w0, b0, hx, rfl⟩ := hI
  have o := o.unsep1
  unfold RM at o
  refine Spec.enter Tryz.func38 rfl Tryz.ntmps38 (by kernel_rfl) ?_
  unfold Dk.armed
  cases hoff : d.off with
  | true =>
    rw [if_pos rfl]
    rw [hoff, Bool.not_true] at o
    refine StillVC.run (StillVC.nilCheck rfl ?_)
    refine StillVC.run (StillVC.fieldAddr st94 rfl rfl rfl ?_)
    refine StillVC.run (StillVC.loadO o 0 rfl ty4 rfl rfl ?_)
    refine Br.tt ?_
    refine RetVC.zero rfl ?_
    exact ⟨rfl, IsRf.pack d o hd rfl rfl rfl (by rw [hoff]; rfl) rfl hx rfl⟩
  | false =>
    rw [if_neg (show ¬ (false = true) by decide)]
    rw [hoff, Bool.not_false] at o
    refine StillVC.run (StillVC.nilCheck rfl ?_)
    refine StillVC.run (StillVC.fieldAddr st94 rfl rfl rfl ?_)
    refine StillVC.run (StillVC.loadO o 0 rfl ty4 rfl rfl ?_)
    refine Br.ff ?_
    refine StillVC.run (StillVC.nilCheck rfl ?_)
    refine StillVC.run (StillVC.fieldAddr st94 rfl rfl rfl ?_)
    (refine RunVC.store o 0 rfl ty4 rfl (by simp) (And.intro ⟨rfl, rfl⟩ ?_); intro m25 o25)
    refine StillVC.run (StillVC.nilCheck rfl ?_)
    refine StillVC.run (StillVC.fieldAddr st94 rfl rfl rfl ?_)
    (refine RunVC.store o25 0 rfl ty3 rfl (by simp) (And.intro ⟨rfl, rfl⟩ ?_); intro m28 o28)
    refine StillVC.run (StillVC.nilCheck rfl ?_)
    refine StillVC.run (StillVC.fieldAddr st94 rfl rfl rfl ?_)
    (refine RunVC.store o28 0 rfl ty3 rfl (by simp) (And.intro ⟨rfl, rfl⟩ ?_); intro m31 o31)
    refine StillVC.run (StillVC.nilCheck rfl ?_)
    refine StillVC.run (StillVC.fieldAddr st94 rfl rfl rfl ?_)
    (refine RunVC.store o31 0 rfl ty3 rfl (by simp) (And.intro ⟨rfl, rfl⟩ ?_); intro m34 o34)
    refine RetVC.zero rfl ?_
    refine ⟨rfl, IsRf.pack { d with off := false, arm := if 0 ≤ a then some (a, w, b) else none } (Own.sel (by assumption) [0, 1, 2, 3] rfl) ⟨hd.wf.keep rfl rfl, hd.le, hd.q, ?_⟩ rfl rfl rfl rfl ?_ ?_ rfl⟩
    · simp only
      split
      · intro x hx'
        cases hx'
        exact ⟨by assumption, ha⟩
      · simp
    · by_cases h0 : 0 ≤ a
      · simp [h0]
      · simp [h0]
    · simp only
      split
      · intro x hx'
        cases hx'
        rfl
      · simp

theorem stale_dok {d : Dk} (hd : DOK d) (i : Int) : DOK (d.stale i) ∧ (d.stale i).st.length = d.st.length := by
  unfold Dk.stale
  by_cases hi : 0 ≤ i ∧ i < d.st.length
  · rw [if_pos hi]
    obtain ⟨k, rfl⟩ : ∃ k : Nat, i = k := ⟨i.toNat, by omega⟩
    have hk : k < d.st.length := by omega
    have e1 : (k : Int).toNat = k := rfl
    rw [e1]
    have el : ({ d with st := d.st.set k (d.el.getD k []) } : Dk).st.length = d.st.length := by simp
    have w : ({ d with st := d.st.set k (d.el.getD k []) } : Dk).Wf d.st.length := ⟨by simp, hd.wf.el, fun j hj => by
      rw [List.getD_eq_getElem?_getD, List.getElem?_set]
      by_cases hjk : k = j
      · subst hjk
        rw [if_pos rfl, if_pos hk]
        exact hd.wf.e64 _ hj
      · rw [if_neg hjk, ← List.getD_eq_getElem?_getD]
        exact hd.wf.s64 j hj, hd.wf.e64⟩
    exact ⟨⟨by rw [el]; exact w, by rw [el]; exact hd.le, by rw [el]; exact hd.q, hd.arm⟩, el⟩
  · rw [if_neg hi]
    exact ⟨hd, rfl⟩

set_option maxHeartbeats 4000000 in
set_option maxRecDepth 100000 in
theorem rstale_spec (B : Base) (rp : Nat) (d : Dk) (I : Item) (i : Int) (h : Heap) (hI : IsRf rp d I) (o : Own B [I] h) :
    SpecR Tryz.prog 40 [.pointer (some ⟨rp, 0, none⟩), .int .i64 i] h fun v h' => v = .tuple #[] ∧ ∃ I', IsRf rp (d.stale i) I' ∧ Own B [I'] h' := by
  obtain ⟨hd, sv, ev, qv, a0, w0, b0, hx, rfl⟩ := hI
  have o := o.unsep1
  unfold RM at o
  obtain ⟨k1, k2⟩ := stale_dok hd i
  obtain ⟨sa, sc, rfl⟩ := o.rowIs 1 rfl
  obtain ⟨ea, ec, hev⟩ := o.rowIs 2 rfl
  subst hev
  have hN := hd.le
  have hsl : (strs d.st).length = d.st.length := by simp
  have hel : (strs d.el).length = d.st.length := by simp [hd.wf.el]
  refine Spec.enter Tryz.func40 rfl Tryz.ntmps40 (by kernel_rfl) ?_
  by_cases hi : 0 ≤ i ∧ i < d.st.length
  · have e : d.stale i = { d with st := d.st.set i.toNat (d.el.getD i.toNat []) } := by unfold Dk.stale; rw [if_pos hi]
    obtain ⟨k, rfl⟩ : ∃ k : Nat, i = k := ⟨i.toNat, by omega⟩
    have e1 : (k : Int).toNat = k := rfl
    rw [e1] at e
    obtain ⟨x, hx1⟩ := getx (show k < d.el.length by rw [hd.wf.el]; omega)
    have hx2 : d.el.getD k [] = x := by rw [List.getD_eq_getElem?_getD, hx1]; rfl
    rw [hx2] at e
    refine Br.dec (fun c20 => ?_) (fun hc => absurd (by omega) hc)
    refine StillVC.run (StillVC.nilCheck rfl ?_)
    refine StillVC.run (StillVC.fieldAddr st94 rfl rfl rfl ?_)
    refine StillVC.run (StillVC.loadO o 0 rfl ty22 rfl rfl ?_)
    refine StillVC.run (StillVC.lenV rfl sl22 ?_)
    refine Br.dec (fun c25 => ?_) (fun hc => absurd (by omega) hc)
    refine DrawVC.intro [0, 1, 2, 4, 5, 6, 7, 9, 10, 12] [3, 8, 11] [13] [0, 1, 2, 3, 4, 5, 6, 7, 8, 9, 10, 11, 12, 13] mixed (by kernel_rfl) rfl (fun _ _ _ _ h => h) ?_
    refine StillVC.nilCheck rfl ?_
    refine StillVC.fieldAddr st94 rfl rfl rfl ?_
    refine StillVC.loadO o 0 rfl ty22 rfl rfl ?_
    refine StillVC.nilCheck rfl ?_
    refine StillVC.fieldAddr st94 rfl rfl rfl ?_
    refine StillVC.loadO o 0 rfl ty22 rfl rfl ?_
    refine StillVC.idx sl22 ty9 (o.rowArr 2 rfl) rfl (by omega) (by omega) ?_
    refine StillVC.loadM (o.rowArr 2 rfl) ty9 rfl (by first | assumption | rfl) ?_
    refine StillVC.idx sl22 ty9 (o.rowArr 1 rfl) rfl (by omega) (by omega) ?_
    (refine RunVC.storeR o 1 rfl ty9 rfl rfl (by first | omega | (simp; omega)) (And.intro ⟨rfl, rfl⟩ ?_); intro m35 o35)
    refine RetVC.zero rfl ?_
    refine ⟨rfl, IsRf.pack (d0 := d.stale (k : Int)) (d.stale (k : Int)) ?_ k1 k2.symm rfl rfl ?_ ?_ ?_ ?_ (N := d.st.length) (sv := .slice sa d.st.length sc) (ev := .slice ea d.st.length ec) (qv := qv) (on := !d.off) (arm := d.arm.isSome) (a := a0) (w := w0) (b := b0) (q := d.q)⟩
    · rw [e]
      show Own B [_, row _ _ 1 _ (strs (d.st.set k x)), _, _] _
      rw [← strs_set]
      exact Own.sel (by assumption) [0, 1, 2, 3] rfl
    · rw [e]
    · rw [e]
    · rw [e]; exact hx
    · rw [e]
  · have e : d.stale i = d := by unfold Dk.stale; rw [if_neg hi]
    rw [e]
    by_cases h0 : i < 0
    · refine Br.dec (fun hc => absurd hc (by omega)) (fun c20 => ?_)
      refine Br.ff ?_
      refine RetVC.zero rfl ?_
      exact ⟨rfl, IsRf.pack d o hd rfl rfl rfl rfl rfl hx rfl⟩
    · have h1 : (d.st.length : Int) ≤ i := by omega
      clear hi
      refine Br.dec (fun c20 => ?_) (fun hc => absurd (by omega) hc)
      refine StillVC.run (StillVC.nilCheck rfl ?_)
      refine StillVC.run (StillVC.fieldAddr st94 rfl rfl rfl ?_)
      refine StillVC.run (StillVC.loadO o 0 rfl ty22 rfl rfl ?_)
      refine StillVC.run (StillVC.lenV rfl sl22 ?_)
      refine Br.dec (fun hc => absurd hc (by omega)) (fun c25 => ?_)
      refine RetVC.zero rfl ?_
      exact ⟨rfl, IsRf.pack d o hd rfl rfl rfl rfl rfl hx rfl⟩

end Go.Proofs.YtfjajkgfgigodaaGreatDoor

/- The reference disk: New, Rot. -/
namespace Go.Proofs.YtfjajkgfgigodaaGreatDoor
open Go

set_option maxHeartbeats 4000000 in
set_option maxRecDepth 100000 in
theorem rnew_none (n : Int) (h : Heap) (hn : n < 1 ∨ 4000 < n) :
    SpecR Tryz.prog 30 [.int .i64 n] h fun v h' => v = .pointer none ∧ Own h [] h' := by
  refine Spec.enter Tryz.func30 rfl Tryz.ntmps30 (by kernel_rfl) ?_
  have o0 := Own.refl h
  by_cases h1 : n < 1
  · refine Br.dec (fun c20 => ?_) (fun hc => absurd (by omega) hc)
    refine Br.tt ?_
    refine RetVC.one rfl ?_
    exact ⟨rfl, o0⟩
  · have h2 : 4000 < n := by omega
    clear hn
    refine Br.dec (fun hc => absurd hc (by omega)) (fun c20 => ?_)
    refine Br.dec (fun c21 => ?_) (fun hc => absurd (by omega) hc)
    refine RetVC.one rfl ?_
    exact ⟨rfl, o0⟩

theorem strs_rep (i : Nat) : strs (List.replicate i zS) ++ [Value.string ⟨⟨zS⟩⟩] = strs (List.replicate (i + 1) zS) := by
  rw [List.replicate_succ']
  simp [strs]

set_option maxHeartbeats 4000000 in
set_option maxRecDepth 100000 in
theorem rnew_spec (n : Nat) (h : Heap) (h1 : 1 ≤ n) (h4 : n ≤ 4000) :
    SpecR Tryz.prog 30 [.int .i64 n] h fun v h' => ∃ rp I, v = .pointer (some ⟨rp, 0, none⟩) ∧ IsRf rp (newD n) I ∧ Own h [I] h' := by
  refine Spec.enter Tryz.func30 rfl Tryz.ntmps30 (by kernel_rfl) ?_
  have o0 := Own.refl h
  refine Br.dec (fun hc => absurd hc (by omega)) (fun c20 => ?_)
  refine Br.dec (fun hc => absurd hc (by omega)) (fun c21 => ?_)
  refine StillVC.run (StillVC.buildK st94 ?_)
  refine And.intro rfl ?_
  (refine RunVC.boxO o0 rfl ?_; intro b23 m23 o23)
  refine CallVC.ret (rzero_spec 64 _ (by omega)) ?_
  rintro _ h2 ⟨rfl, oc⟩
  have o1 : Own ⟨h, []⟩ [box b23 [.slice none 0 0, .slice none 0 0, .slice none 0 0, .bool true, .bool false, .int .i64 0, .int .i64 0, .int .i64 0] 94, row (.slice none 0 0) 9 1 0 [], row (.slice none 0 0) 9 1 0 []] h2 := Own.nilRow (Own.nilRow (o23.ext' oc) 9 1) 9 1
  clear o23 oc o0
  refine LoopVC.intro [5, 15, 16, 17, 18, 19, 20, 21, 22, 23, 24, 25, 26, 27, 28, 29, 30, 31, 32, 33, 34, 35, 36, 37, 38, 39] [5] (fun vs hh => ∃ (i : Nat) (sv ev : Value), i ≤ n ∧ vs = [.int .i64 i] ∧ Own ⟨h, []⟩ [box b23 [sv, ev, .slice none 0 0, .bool true, .bool false, .int .i64 0, .int .i64 0, .int .i64 0] 94, row sv 9 1 i (strs (List.replicate i zS)), row ev 9 1 i (strs (List.replicate i zS))] hh) (fun vs _ => match vs with | [.int _ i] => n - i.toNat | _ => 0) ?_ ?_
  · exact ⟨0, _, _, by omega, rfl, o1⟩
  · clear o1
    rintro vs junk hh ⟨i, sv, ev, hi, rfl, o⟩
    obtain ⟨sa, sc, rfl⟩ := o.rowIs 1 rfl
    obtain ⟨ea, ec, rfl⟩ := o.rowIs 2 rfl
    have hsl : (strs (List.replicate i zS)).length = i := by simp
    by_cases hlt : i < n
    · refine Br.dec (fun c60 => ?_) (fun hc => absurd (by omega) hc)
      refine StillVC.run (StillVC.nilCheck rfl ?_)
      refine StillVC.run (StillVC.fieldAddr st94 rfl rfl rfl ?_)
      refine StillVC.run (StillVC.loadO o 0 rfl ty22 rfl rfl ?_)
      (refine RunVC.lit o sl22 ty9 rfl rfl (by decide) (And.intro rfl ?_); intro b64 m64 o64)
      (refine RunVC.append o64 1 rfl sl22 ty9 (by decide) (o64.boxArr 3 rfl (by simp) (by simp)).toN (by simp [Value.oneCell']) (by simp only [maxLen]; first | omega | (simp; omega)) (by first | omega | (simp; omega)) ?_; intro v65 m65 o65)
      refine StillVC.run (StillVC.nilCheck rfl ?_)
      refine StillVC.run (StillVC.fieldAddr st94 rfl rfl rfl ?_)
      obtain ⟨xa, xc, rfl⟩ := o65.rowIs 1 rfl
      (refine RunVC.store o65 0 rfl ty22 rfl (by simp) (And.intro ⟨rfl, rfl⟩ ?_); intro m70 o70)
      refine StillVC.run (StillVC.nilCheck rfl ?_)
      refine StillVC.run (StillVC.fieldAddr st94 rfl rfl rfl ?_)
      refine StillVC.run (StillVC.loadO o70 0 rfl ty22 rfl rfl ?_)
      (refine RunVC.lit o70 sl22 ty9 rfl rfl (by decide) (And.intro rfl ?_); intro b74 m74 o74)
      (refine RunVC.append o74 2 rfl sl22 ty9 (by decide) (o74.boxArr 4 rfl (by simp) (by simp)).toN (by simp [Value.oneCell']) (by simp only [maxLen]; first | omega | (simp; omega)) (by first | omega | (simp; omega)) ?_; intro v75 m75 o75)
      refine StillVC.run (StillVC.nilCheck rfl ?_)
      refine StillVC.run (StillVC.fieldAddr st94 rfl rfl rfl ?_)
      obtain ⟨ya, yc, rfl⟩ := Own.rowIs (by assumption) 2 rfl
      (refine RunVC.store o75 0 rfl ty22 rfl (by simp) (And.intro ⟨rfl, rfl⟩ ?_); intro m90 o90)
      refine Ar.i64 (by omega) (by omega) ?_
      refine ⟨rfl, ?_⟩
      refine ⟨⟨i + 1, .slice xa (i + 1) xc, .slice ya (i + 1) yc, by omega, by simp, ?_⟩, by simp only; omega⟩
      rw [← strs_rep]
      exact Own.sel (by assumption) [0, 1, 2] rfl
    · obtain rfl : i = n := by omega
      refine Br.dec (fun hc => absurd hc (by omega)) (fun c80 => ?_)
      refine RetVC.one rfl ?_
      have hd := new_dok h4
      have e : (newD i).st.length = i := by simp [newD]
      obtain ⟨I, hI, o9⟩ := IsRf.pack (d0 := newD i) (N := i) (q := []) (newD i) (o.nilRow 104 2) hd e.symm rfl rfl rfl rfl (by simp [newD]) rfl
      exact ⟨_, I, rfl, hI, o9⟩

theorem rot_dok {d : Dk} (hd : DOK d) (i a m : Int) : DOK (d.rot i a m) ∧ (d.rot i a m).st.length = d.st.length := by
  unfold Dk.rot
  by_cases hi : 0 ≤ i ∧ i < d.st.length ∧ 0 ≤ a ∧ a < 64 ∧ 0 < m ∧ m < 256
  · rw [if_pos hi]
    obtain ⟨k, rfl⟩ : ∃ k : Nat, i = k := ⟨i.toNat, by omega⟩
    have hk : k < d.st.length := by omega
    have e1 : (k : Int).toNat = k := rfl
    rw [e1]
    generalize hy : (d.st.getD k []).set a.toNat ((d.st.getD k []).getD a.toNat 0 ^^^ UInt8.ofNat m.toNat) = y
    have hyl : y.length = 64 := by rw [← hy, List.length_set]; exact hd.wf.s64 k hk
    have el : ({ d with st := d.st.set k y } : Dk).st.length = d.st.length := by simp
    have w : ({ d with st := d.st.set k y } : Dk).Wf d.st.length := ⟨by simp, hd.wf.el, fun j hj => by
      rw [List.getD_eq_getElem?_getD, List.getElem?_set]
      by_cases hjk : k = j
      · subst hjk
        rw [if_pos rfl, if_pos hk]
        exact hyl
      · rw [if_neg hjk, ← List.getD_eq_getElem?_getD]
        exact hd.wf.s64 j hj, hd.wf.e64⟩
    exact ⟨⟨by rw [el]; exact w, by rw [el]; exact hd.le, by rw [el]; exact hd.q, hd.arm⟩, el⟩
  · rw [if_neg hi]
    exact ⟨hd, rfl⟩

set_option maxHeartbeats 4000000 in
set_option maxRecDepth 100000 in
theorem rrot_spec (B : Base) (rp : Nat) (d : Dk) (I : Item) (i a m : Int) (h : Heap) (hI : IsRf rp d I) (o : Own B [I] h) :
    SpecR Tryz.prog 39 [.pointer (some ⟨rp, 0, none⟩), .int .i64 i, .int .i64 a, .int .i64 m] h fun v h' => v = .tuple #[] ∧ ∃ I', IsRf rp (d.rot i a m) I' ∧ Own B [I'] h' := by
  obtain ⟨hd, sv, ev, qv, a0, w0, b0, hx, rfl⟩ := hI
  have o := o.unsep1
  unfold RM at o
  obtain ⟨k1, k2⟩ := rot_dok hd i a m
  obtain ⟨sa, sc, rfl⟩ := o.rowIs 1 rfl
  have hN := hd.le
  have hsl : (strs d.st).length = d.st.length := by simp
  refine Spec.enter Tryz.func39 rfl Tryz.ntmps39 (by kernel_rfl) ?_
  have out : d.rot i a m = d → ∀ h', Own B (RM rp d.st.length (.slice sa d.st.length sc) ev qv (!d.off) d.arm.isSome a0 w0 b0 d.q d) h' → ∃ I', IsRf rp (d.rot i a m) I' ∧ Own B [I'] h' := fun e h' o => by
    rw [e]
    exact IsRf.pack d o hd rfl rfl rfl rfl rfl hx rfl
  by_cases h0 : 0 ≤ i
  · by_cases h1 : i < d.st.length
    · by_cases h2 : 0 ≤ a
      · by_cases h3 : a < 64
        · by_cases h4 : 0 < m
          · by_cases h5 : m < 256
            · have e : d.rot i a m = { d with st := d.st.set i.toNat ((d.st.getD i.toNat []).set a.toNat ((d.st.getD i.toNat []).getD a.toNat 0 ^^^ UInt8.ofNat m.toNat)) } := by unfold Dk.rot; rw [if_pos ⟨h0, h1, h2, h3, h4, h5⟩]
              obtain ⟨k, rfl⟩ : ∃ k : Nat, i = k := ⟨i.toNat, by omega⟩
              obtain ⟨c, rfl⟩ : ∃ c : Nat, a = c := ⟨a.toNat, by omega⟩
              have e1 : (k : Int).toNat = k := rfl
              have e2 : (c : Int).toNat = c := rfl
              rw [e1, e2] at e
              obtain ⟨x, hx1⟩ := getx (show k < d.st.length by omega)
              have hx2 : d.st.getD k [] = x := by rw [List.getD_eq_getElem?_getD, hx1]; rfl
              have hxl : x.length = 64 := by rw [← hx2]; exact hd.wf.s64 k (by omega)
              rw [hx2] at e
              obtain ⟨y, hy1⟩ := getx (show c < x.length by omega)
              have hy2 : x.getD c 0 = y := by rw [List.getD_eq_getElem?_getD, hy1]; rfl
              rw [hy2] at e
              have hc64 : c < x.length := by omega
              refine Br.dec (fun hc => absurd hc (by omega)) (fun c20 => ?_)
              refine StillVC.run (StillVC.nilCheck rfl ?_)
              refine StillVC.run (StillVC.fieldAddr st94 rfl rfl rfl ?_)
              refine StillVC.run (StillVC.loadO o 0 rfl ty22 rfl rfl ?_)
              refine StillVC.run (StillVC.lenV rfl sl22 ?_)
              refine Br.dec (fun hc => absurd hc (by omega)) (fun c25 => ?_)
              refine Br.dec (fun hc => absurd hc (by omega)) (fun c26 => ?_)
              refine Br.dec (fun hc => absurd hc (by omega)) (fun c27 => ?_)
              refine Br.dec (fun hc => absurd hc (by omega)) (fun c28 => ?_)
              refine Br.dec (fun hc => absurd hc (by omega)) (fun c29 => ?_)
              refine StillVC.run (StillVC.nilCheck rfl ?_)
              refine StillVC.run (StillVC.fieldAddr st94 rfl rfl rfl ?_)
              refine StillVC.run (StillVC.loadO o 0 rfl ty22 rfl rfl ?_)
              refine StillVC.run (StillVC.idx sl22 ty9 (o.rowArr 1 rfl) rfl (by omega) (by omega) ?_)
              refine StillVC.run (StillVC.loadM (o.rowArr 1 rfl) ty9 rfl (by first | assumption | rfl) ?_)
              refine StillVC.run (StillVC.strIdx rfl rfl str9 (by omega) (by assumption) ?_)
              refine StillVC.run (StillVC.convI rfl int3 int5 ?_)
              refine Ar.u8 (by omega) (by omega) ?_
              refine StillVC.run (StillVC.bit rfl rfl rfl ?_)
              (refine RunVC.lit o sl59 ty5 rfl rfl (by decide) (And.intro rfl ?_); intro b38 m38 o38)
              refine DrawVC.intro [0, 1, 2, 4, 5, 6, 7, 8, 10, 11, 12, 13, 14, 15, 16] [3, 9] [17] [0, 1, 2, 3, 4, 5, 6, 7, 8, 9, 10, 11, 12, 13, 14, 15, 16, 17] mixed (by kernel_rfl) rfl (fun _ _ _ _ h => h) ?_
              refine StillVC.nilCheck rfl ?_
              refine StillVC.fieldAddr st94 rfl rfl rfl ?_
              refine StillVC.loadO o38 0 rfl ty22 rfl rfl ?_
              refine StillVC.sliceS str9 rfl rfl ⟨_, rfl⟩ (by omega) (by omega) (by omega) ?_
              have hA : Arr m38 (.slice (some ⟨b38, 0, none⟩) 1 1) (bytes [y ^^^ UInt8.ofNat m.toNat]) := by
                have := o38.boxArr 4 rfl (n := 1) rfl (Nat.le_refl _)
                rw [xor_byte y (by omega) (by omega)] at this
                exact this
              refine StillVC.bytesStr hA sl59 int5 str9 ?_
              refine StillVC.strAdd rfl rfl (by first | omega | (simp; omega)) ?_
              refine Ar.i64 (by omega) (by omega) ?_
              refine StillVC.sliceS str9 rfl ⟨_, rfl⟩ rfl (by omega) (by omega) (by omega) ?_
              refine StillVC.strAdd rfl rfl (by first | omega | (simp; omega)) ?_
              refine StillVC.idx sl22 ty9 (o38.rowArr 1 rfl) rfl (by omega) (by omega) ?_
              (refine RunVC.storeR o38 1 rfl ty9 rfl rfl (by first | omega | (simp; omega)) (And.intro ⟨rfl, rfl⟩ ?_); intro m45 o45)
              refine RetVC.zero rfl ?_
              have es : List.drop (Int.toNat 0) (List.take ((c : Nat) : Int).toNat x) ++ [y ^^^ UInt8.ofNat m.toNat] ++ List.drop ((c : Int) + 1).toNat (List.take ((x.length : Nat) : Int).toNat x) = x.set c (y ^^^ UInt8.ofNat m.toNat) := by
                rw [List.set_eq_take_append_cons_drop, if_pos hc64, show ((c : Int) + 1).toNat = c + 1 from by omega]
                simp
              rw [es] at o45
              refine ⟨rfl, IsRf.pack (d0 := d.rot (k : Int) (c : Int) m) (d.rot (k : Int) (c : Int) m) ?_ k1 k2.symm rfl rfl ?_ ?_ ?_ ?_ (N := d.st.length) (sv := .slice sa d.st.length sc) (ev := ev) (qv := qv) (on := !d.off) (arm := d.arm.isSome) (a := a0) (w := w0) (b := b0) (q := d.q)⟩
              · rw [e]
                show Own B [_, row _ _ 1 _ (strs (d.st.set k (x.set c (y ^^^ UInt8.ofNat m.toNat)))), _, _] _
                rw [← strs_set]
                exact o45.sel [0, 1, 2, 3] rfl
              · rw [e]
              · rw [e]
              · rw [e]; exact hx
              · rw [e]
            · have e := out (by unfold Dk.rot; rw [if_neg (by omega)])
              refine Br.dec (fun hc => absurd hc (by omega)) (fun c20 => ?_)
              refine StillVC.run (StillVC.nilCheck rfl ?_)
              refine StillVC.run (StillVC.fieldAddr st94 rfl rfl rfl ?_)
              refine StillVC.run (StillVC.loadO o 0 rfl ty22 rfl rfl ?_)
              refine StillVC.run (StillVC.lenV rfl sl22 ?_)
              refine Br.dec (fun hc => absurd hc (by omega)) (fun c25 => ?_)
              refine Br.dec (fun hc => absurd hc (by omega)) (fun c26 => ?_)
              refine Br.dec (fun hc => absurd hc (by omega)) (fun c27 => ?_)
              refine Br.dec (fun hc => absurd hc (by omega)) (fun c28 => ?_)
              refine Br.dec (fun c29 => ?_) (fun hc => absurd (by omega) hc)
              refine RetVC.zero rfl ?_
              exact ⟨rfl, e _ o⟩
          · have e := out (by unfold Dk.rot; rw [if_neg (by omega)])
            refine Br.dec (fun hc => absurd hc (by omega)) (fun c20 => ?_)
            refine StillVC.run (StillVC.nilCheck rfl ?_)
            refine StillVC.run (StillVC.fieldAddr st94 rfl rfl rfl ?_)
            refine StillVC.run (StillVC.loadO o 0 rfl ty22 rfl rfl ?_)
            refine StillVC.run (StillVC.lenV rfl sl22 ?_)
            refine Br.dec (fun hc => absurd hc (by omega)) (fun c25 => ?_)
            refine Br.dec (fun hc => absurd hc (by omega)) (fun c26 => ?_)
            refine Br.dec (fun hc => absurd hc (by omega)) (fun c27 => ?_)
            refine Br.dec (fun c28 => ?_) (fun hc => absurd (by omega) hc)
            refine Br.tt ?_
            refine RetVC.zero rfl ?_
            exact ⟨rfl, e _ o⟩
        · have e := out (by unfold Dk.rot; rw [if_neg (by omega)])
          refine Br.dec (fun hc => absurd hc (by omega)) (fun c20 => ?_)
          refine StillVC.run (StillVC.nilCheck rfl ?_)
          refine StillVC.run (StillVC.fieldAddr st94 rfl rfl rfl ?_)
          refine StillVC.run (StillVC.loadO o 0 rfl ty22 rfl rfl ?_)
          refine StillVC.run (StillVC.lenV rfl sl22 ?_)
          refine Br.dec (fun hc => absurd hc (by omega)) (fun c25 => ?_)
          refine Br.dec (fun hc => absurd hc (by omega)) (fun c26 => ?_)
          refine Br.dec (fun c27 => ?_) (fun hc => absurd (by omega) hc)
          refine Br.tt ?_
          refine RetVC.zero rfl ?_
          exact ⟨rfl, e _ o⟩
      · have e := out (by unfold Dk.rot; rw [if_neg (by omega)])
        refine Br.dec (fun hc => absurd hc (by omega)) (fun c20 => ?_)
        refine StillVC.run (StillVC.nilCheck rfl ?_)
        refine StillVC.run (StillVC.fieldAddr st94 rfl rfl rfl ?_)
        refine StillVC.run (StillVC.loadO o 0 rfl ty22 rfl rfl ?_)
        refine StillVC.run (StillVC.lenV rfl sl22 ?_)
        refine Br.dec (fun hc => absurd hc (by omega)) (fun c25 => ?_)
        refine Br.dec (fun c26 => ?_) (fun hc => absurd (by omega) hc)
        refine Br.tt ?_
        refine RetVC.zero rfl ?_
        exact ⟨rfl, e _ o⟩
    · have e := out (by unfold Dk.rot; rw [if_neg (by omega)])
      refine Br.dec (fun hc => absurd hc (by omega)) (fun c20 => ?_)
      refine StillVC.run (StillVC.nilCheck rfl ?_)
      refine StillVC.run (StillVC.fieldAddr st94 rfl rfl rfl ?_)
      refine StillVC.run (StillVC.loadO o 0 rfl ty22 rfl rfl ?_)
      refine StillVC.run (StillVC.lenV rfl sl22 ?_)
      refine Br.dec (fun c25 => ?_) (fun hc => absurd (by omega) hc)
      refine Br.tt ?_
      refine RetVC.zero rfl ?_
      exact ⟨rfl, e _ o⟩
  · have e := out (by unfold Dk.rot; rw [if_neg (by omega)])
    refine Br.dec (fun c20 => ?_) (fun hc => absurd (by omega) hc)
    refine Br.tt ?_
    refine RetVC.zero rfl ?_
    exact ⟨rfl, e _ o⟩

end Go.Proofs.YtfjajkgfgigodaaGreatDoor

/- The reference log: digits, halves, sectors of zero bytes, heads. -/
namespace Go.Proofs.YtfjajkgfgigodaaGreatDoor
open Go

theorem dig_slice : ∀ k, k < 10 → List.drop k (List.take (k + 1) [48, 49, 50, 51, 52, 53, 54, 55, 56, 57]) = [UInt8.ofNat (48 + k)] := by decide

set_option maxHeartbeats 4000000 in
set_option maxRecDepth 100000 in
theorem kdigits_spec (n w : Nat) (h : Heap) (hn : n ≤ 1000000000000) (hw : w ≤ 100) : SpecR Tryz.prog 122 [.int .i64 n, .int .i64 w] h fun v h' => v = .string ⟨⟨dig w n⟩⟩ ∧ Own h [] h' := by
  refine Spec.enter Tryz.func122 rfl Tryz.ntmps122 (by kernel_rfl) ?_
  have o0 := Own.refl h
  generalize hT : dig w n = T
  refine LoopVC.intro [0, 5, 6, 7, 8, 9, 10, 11, 12, 13, 14, 15, 16, 17, 18, 19, 20, 21] [0, 5, 6] (fun vs hh => ∃ (i m : Nat) (t : List UInt8), i ≤ w ∧ vs = [.int .i64 m, .string ⟨⟨t⟩⟩, .int .i64 i] ∧ m ≤ 1000000000000 ∧ t.length = i ∧ dig (w - i) m ++ t = T ∧ Own h [] hh) (fun vs _ => match vs with | [_, _, .int _ i] => w - i.toNat | _ => 0) ?_ ?_
  · exact ⟨0, n, [], by omega, rfl, hn, rfl, by simpa using hT, o0⟩
  · clear o0
    rintro vs junk hh ⟨i, m, t, hi, rfl, hm, htl, hd, o⟩
    by_cases hlt : i < w
    · have e1 : w - i = (w - (i + 1)) + 1 := by omega
      rw [e1, dig] at hd
      refine Br.dec (fun c40 => ?_) (fun hc => absurd (by omega) hc)
      refine StillVC.run (StillVC.remE rfl rfl (by omega) (by omega) ?_)
      refine StillVC.run (StillVC.remE rfl rfl (by omega) (by omega) ?_)
      refine Ar.i64 (by omega) (by omega) ?_
      refine StillVC.run (StillVC.sliceS str9 rfl ⟨_, rfl⟩ ⟨_, rfl⟩ (by omega) (by omega) (by simp only [List.length_cons, List.length_nil, Nat.zero_add]; omega) ?_)
      refine StillVC.run (StillVC.strAdd rfl rfl (by first | omega | (simp; omega)) ?_)
      refine StillVC.run (StillVC.quoE rfl rfl (by omega) (by omega) (by simp [IntKind.max, IntKind.signed, IntKind.bits] <;> omega) ?_)
      refine Ar.i64 (by omega) (by omega) ?_
      refine ⟨rfl, ?_⟩
      have e2 : List.drop ((m : Int) % 10).toNat (List.take ((m : Int) % 10 + 1).toNat [48, 49, 50, 51, 52, 53, 54, 55, 56, 57]) = [UInt8.ofNat (48 + m % 10)] := by
        have h1 : ((m : Int) % 10).toNat = m % 10 := by omega
        have h2 : ((m : Int) % 10 + 1).toNat = m % 10 + 1 := by omega
        rw [h1, h2]
        exact dig_slice _ (by omega)
      rw [e2]
      exact ⟨⟨i + 1, m / 10, [UInt8.ofNat (48 + m % 10)] ++ t, by omega, by simp, by omega, by simp [htl], by rw [← hd]; simp, o⟩, by simp only; omega⟩
    · obtain rfl : i = w := by omega
      refine Br.dec (fun hc => absurd hc (by omega)) (fun c40 => ?_)
      refine RetVC.one rfl ?_
      rw [Nat.sub_self] at hd
      exact ⟨by rw [← hd]; rfl, o⟩

/-- The number that digits are. -/
def kval (l : List UInt8) : Int := if l.all isDig = true then numL l else -1

theorem kval_bad {l : List UInt8} {i : Nat} {c : UInt8} (h : l[i]? = some c) (hc : isDig c = false) : kval l = -1 := by
  unfold kval
  rw [if_neg]
  intro ha
  have := List.all_eq_true.1 ha c (List.mem_of_getElem? h)
  rw [hc] at this
  cases this

set_option maxHeartbeats 4000000 in
set_option maxRecDepth 100000 in
theorem kvalue_spec (l : List UInt8) (h : Heap) (hl : l.length ≤ 17) : SpecR Tryz.prog 95 [.string ⟨⟨l⟩⟩] h fun v h' => v = .int .i64 (kval l) ∧ Own h [] h' := by
  refine Spec.enter Tryz.func95 rfl Tryz.ntmps95 (by kernel_rfl) ?_
  have o0 := Own.refl h
  refine LoopVC.intro [2, 3, 4, 5, 6, 7, 8, 9, 10, 11, 12, 13, 14, 15, 16, 17, 18, 19, 20, 21, 22, 23, 24, 25, 26, 27, 28] [3, 4] (fun vs hh => ∃ (i : Nat), i ≤ l.length ∧ vs = [.int .i64 (numL (l.take i) : Nat), .int .i64 i] ∧ (∀ c ∈ l.take i, isDig c = true) ∧ Own h [] hh) (fun vs _ => match vs with | [_, .int _ i] => l.length - i.toNat | _ => 0) ?_ ?_
  · exact ⟨0, by omega, rfl, by simp, o0⟩
  · clear o0
    rintro vs junk hh ⟨i, hi, rfl, hd, o⟩
    have hb := (num_lt _ hd).1
    have hb3 : 10 ^ (l.take i).length ≤ 10 ^ 17 := Nat.pow_le_pow_right (by omega) (by rw [List.length_take]; omega)
    have hb2 : numL (l.take i) < 100000000000000000 := Nat.lt_of_lt_of_le hb hb3
    by_cases hlt : i < l.length
    · obtain ⟨c, hc⟩ := getx hlt
      have ht : l.take (i + 1) = l.take i ++ [c] := by rw [List.take_add_one, hc]; rfl
      have hn : numL (l.take (i + 1)) = numL (l.take i) * 10 + (c.toNat - 48) := by rw [ht, numL_snoc]
      have hc8 := u8_lt c
      by_cases h1 : c.toNat < 48
      · have := kval_bad hc (by simp [isDig]; omega)
        rw [this]
        refine StillVC.run (StillVC.lenS rfl str9 ?_)
        refine Br.dec (fun c41 => ?_) (fun hc => absurd (by omega) hc)
        refine StillVC.run (StillVC.strIdx rfl rfl str9 (by omega) (by assumption) ?_)
        refine Br.dec (fun c43 => ?_) (fun hc => absurd (by omega) hc)
        refine Br.tt ?_
        refine RetVC.one rfl ?_
        exact ⟨rfl, o⟩
      by_cases h2 : 57 < c.toNat
      · have := kval_bad hc (by simp [isDig]; omega)
        rw [this]
        refine StillVC.run (StillVC.lenS rfl str9 ?_)
        refine Br.dec (fun c41 => ?_) (fun hc => absurd (by omega) hc)
        refine StillVC.run (StillVC.strIdx rfl rfl str9 (by omega) (by assumption) ?_)
        refine Br.dec (fun hc => absurd hc (by omega)) (fun c43 => ?_)
        refine StillVC.run (StillVC.strIdx rfl rfl str9 (by omega) (by assumption) ?_)
        refine Br.dec (fun c45 => ?_) (fun hc => absurd (by omega) hc)
        refine RetVC.one rfl ?_
        exact ⟨rfl, o⟩
      · refine StillVC.run (StillVC.lenS rfl str9 ?_)
        refine Br.dec (fun c41 => ?_) (fun hc => absurd (by omega) hc)
        refine StillVC.run (StillVC.strIdx rfl rfl str9 (by omega) (by assumption) ?_)
        refine Br.dec (fun hc => absurd hc (by omega)) (fun c43 => ?_)
        refine StillVC.run (StillVC.strIdx rfl rfl str9 (by omega) (by assumption) ?_)
        refine Br.dec (fun hc => absurd hc (by omega)) (fun c45 => ?_)
        refine Ar.i64 (by omega) (by omega) ?_
        refine StillVC.run (StillVC.strIdx rfl rfl str9 (by omega) (by assumption) ?_)
        refine Ar.u8 (by omega) (by omega) ?_
        refine StillVC.run (StillVC.convI rfl int5 int3 ?_)
        refine Ar.i64 (by omega) (by omega) ?_
        refine Ar.i64 (by omega) (by omega) ?_
        refine Ar.i64 (by omega) (by omega) ?_
        refine ⟨rfl, ?_⟩
        refine ⟨⟨i + 1, by omega, ?_, ?_, o⟩, by simp only; omega⟩
        · rw [hn]; simp; omega
        · rw [ht]
          intro x hx
          rcases List.mem_append.1 hx with hx | hx
          · exact hd x hx
          · rw [List.mem_singleton.1 hx]; simp [isDig]; omega
    · obtain rfl : i = l.length := by omega
      rw [List.take_length] at hd
      have : kval l = numL l := if_pos (List.all_eq_true.2 hd)
      rw [this, List.take_length]
      refine StillVC.run (StillVC.lenS rfl str9 ?_)
      refine Br.dec (fun hc => absurd hc (by omega)) (fun c41 => ?_)
      refine RetVC.one rfl ?_
      exact ⟨rfl, o⟩

set_option maxHeartbeats 4000000 in
set_option maxRecDepth 100000 in
theorem khalf_spec (n : Nat) (h : Heap) (h2 : 2 ≤ n) (h4 : n ≤ 4000) : SpecR Tryz.prog 70 [.int .i64 n] h fun v h' => v = .int .i64 (halfN n) ∧ Own h [] h' := by
  refine Spec.enter Tryz.func70 rfl Tryz.ntmps70 (by kernel_rfl) ?_
  have o0 := Own.refl h
  refine Ar.i64 (by omega) (by omega) ?_
  refine StillVC.run (StillVC.quoE rfl rfl (by omega) (by omega) (by simp [IntKind.max, IntKind.signed, IntKind.bits] <;> omega) ?_)
  refine RetVC.one rfl ?_
  exact ⟨congrArg (Value.int .i64) (by unfold halfN; omega), o0⟩

/-- The reference's log in memory. -/
abbrev klogC (rp : Nat) (L : Lg) (lv : Value) : List Value := [.pointer (some ⟨rp, 0, none⟩), .int .i64 L.n, .int .i64 L.at_, .int .i64 L.s.num, .int .i64 L.s.gen, .int .i64 L.s.len, lv, .bool L.broken]

abbrev KLogI (kp rp : Nat) (L : Lg) (lv : Value) : List Item := [box kp (klogC rp L lv) 98, row lv 9 1 L.list.length (strs L.list)]

set_option maxHeartbeats 4000000 in
set_option maxRecDepth 100000 in
theorem kstart_spec (kp n gen : Nat) (h : Heap) (hc : cellAt h ⟨kp, 1, none⟩ = some (.int .i64 n)) (h2 : 2 ≤ n) (h4 : n ≤ 4000) (hg : gen ≤ 1000000) : SpecR Tryz.prog 67 [.pointer (some ⟨kp, 0, none⟩), .int .i64 gen] h fun v h' => v = .int .i64 (startN n gen) ∧ Own h [] h' := by
  refine Spec.enter Tryz.func67 rfl Tryz.ntmps67 (by kernel_rfl) ?_
  have o0 := Own.refl h
  have hh : halfN n ≤ 2000 := by unfold halfN; omega
  refine StillVC.run (StillVC.remE rfl rfl (by omega) (by omega) ?_)
  refine StillVC.run (StillVC.nilCheck rfl ?_)
  refine StillVC.run (StillVC.fieldAddr st98 rfl rfl rfl ?_)
  refine StillVC.run (StillVC.load1 ty3 rfl (by assumption) ?_)
  refine CallVC.ret (khalf_spec n _ h2 h4) ?_
  rintro _ h1 ⟨rfl, oc⟩
  have hm : (gen : Int) % 2 = 0 ∨ (gen : Int) % 2 = 1 := by omega
  have hmul : 0 ≤ (gen : Int) % 2 * (halfN n : Int) ∧ (gen : Int) % 2 * (halfN n : Int) ≤ 2000 := by
    rcases hm with hm | hm <;> rw [hm] <;> omega
  refine Ar.i64 (by omega) (by omega) ?_
  refine Ar.i64 (by omega) (by omega) ?_
  refine RetVC.one rfl ?_
  refine ⟨congrArg (Value.int .i64) ?_, oc⟩
  unfold startN
  rw [Int.natCast_add, Int.natCast_mul, Int.natCast_emod]
  rfl

set_option maxHeartbeats 4000000 in
set_option maxRecDepth 100000 in
theorem kzeros_spec (n : Nat) (h : Heap) (hn : n ≤ 5000) : SpecR Tryz.prog 101 [.int .i64 n] h fun v h' => Own h [row v 9 1 n (strs (List.replicate n zS))] h' := by
  refine Spec.enter Tryz.func101 rfl Tryz.ntmps101 (by kernel_rfl) ?_
  have o0 := (Own.refl h).nilRow 9 1
  simp only [List.nil_append] at o0
  refine LoopVC.intro [3, 4, 5, 6, 7, 8, 9, 10, 11, 12, 13] [3, 4] (fun vs hh => ∃ (i : Nat) (v : Value), i ≤ n ∧ vs = [v, .int .i64 i] ∧ Own h [row v 9 1 i (strs (List.replicate i zS))] hh) (fun vs _ => match vs with | [_, .int _ i] => n - i.toNat | _ => 0) ?_ ?_
  · exact ⟨0, _, by omega, rfl, o0⟩
  · clear o0
    rintro vs junk hh ⟨i, v, hi, rfl, o⟩
    obtain ⟨xa, xc, rfl⟩ := o.rowIs 0 rfl
    have hsl : (strs (List.replicate i zS)).length = i := by simp
    by_cases hlt : i < n
    · refine Br.dec (fun c40 => ?_) (fun hc => absurd (by omega) hc)
      refine CallVC.ret (zero_spec _) ?_
      rintro _ h2 ⟨rfl, oc⟩
      have o2 := o.ext' oc
      clear o oc
      (refine RunVC.lit o2 sl22 ty9 rfl rfl (by decide) (And.intro rfl ?_); intro b50 m50 o50)
      (refine RunVC.append o50 0 rfl sl22 ty9 (by decide) (o50.boxArr 1 rfl (by simp) (by simp)).toN (by simp [Value.oneCell']) (by simp only [maxLen]; first | omega | (simp; omega)) (by first | omega | (simp; omega)) ?_; intro v51 m51 o51)
      refine Ar.i64 (by omega) (by omega) ?_
      refine ⟨rfl, ?_⟩
      refine ⟨⟨i + 1, v51, by omega, by simp, ?_⟩, by simp only; omega⟩
      rw [← strs_rep]
      exact o51.sel [0] rfl
    · obtain rfl : i = n := by omega
      refine Br.dec (fun hc => absurd hc (by omega)) (fun c40 => ?_)
      refine RetVC.one rfl ?_
      exact o

set_option maxHeartbeats 4000000 in
set_option maxRecDepth 100000 in
theorem kheads_spec (s : St) (a : Nat) (h : Heap) (hs : s.Fits) (ha : a < 2) : SpecR Tryz.prog 102 [.int .i64 a, .int .i64 s.num, .int .i64 s.gen, .int .i64 s.len] h fun v h' => v = .string ⟨⟨headL a s⟩⟩ ∧ Own h [] h' := by
  have h1 := hs.num
  have h2 := hs.gen
  have h3 := hs.len
  have l1 := dig_len 9 s.num
  have l2 := dig_len 6 s.gen
  have l3 := dig_len 4 s.len
  have hp : putR 0 a (digS s ++ digS s) = (headL a s, 0) := by
    unfold putR
    rw [if_pos (placed0 (by omega)), if_pos (by simp [digS_len])]
    rfl
  refine Spec.enter Tryz.func102 rfl Tryz.ntmps102 (by kernel_rfl) ?_
  refine CallVC.ret (kdigits_spec s.num 9 _ (by omega) (by omega)) ?_
  rintro _ m1 ⟨rfl, o1⟩
  refine CallVC.ret (kdigits_spec s.gen 6 _ (by omega) (by omega)) ?_
  rintro _ m2 ⟨rfl, oc⟩
  have o2 := o1.ext' oc
  clear oc o1
  refine StillVC.run (StillVC.strAdd rfl rfl (by first | omega | (simp; omega)) ?_)
  refine CallVC.ret (kdigits_spec s.len 4 _ (by omega) (by omega)) ?_
  rintro _ m3 ⟨rfl, oc⟩
  have o3 := o2.ext' oc
  clear oc o2
  refine StillVC.run (StillVC.strAdd rfl rfl (by first | omega | (simp; omega)) ?_)
  refine StillVC.run (StillVC.strAdd rfl rfl (by first | omega | (simp; omega)) ?_)
  refine CallVC.ret (refPut_spec 0 a (digS s ++ digS s) _ (by simp [digS_len])) ?_
  rw [hp]
  rintro _ m4 ⟨rfl, oc⟩
  have o4 := o3.ext' oc
  clear oc o3
  refine RetVC.one rfl ?_
  exact ⟨rfl, o4⟩

end Go.Proofs.YtfjajkgfgigodaaGreatDoor

/- The reference log: writes to sectors, and a synchronization behind them. -/
namespace Go.Proofs.YtfjajkgfgigodaaGreatDoor
open Go

set_option maxHeartbeats 4000000 in
set_option maxRecDepth 100000 in
theorem kput_spec (B : Base) (kp rp : Nat) (d : Dk) (I X : Item) (sv tv : Value) (ss : List Nat) (ts : List (List UInt8)) (h : Heap)
    (hI : IsRf rp d I) (o : Own B [I, X] h) (hd : ∀ h, X.sat h → cellAt h ⟨kp, 0, none⟩ = some (.pointer (some ⟨rp, 0, none⟩))) (hS : Reads X 1 sv ss.length (natsV ss))
    (hT : Reads X 1 tv ts.length (strs ts)) (hl : ss.length = ts.length) (hn : ss.length ≤ 5000) (hq : d.q.length ≤ 1000) (ht : ∀ t ∈ ts, t.length ≤ 1000000) :
    SpecR Tryz.prog 100 [.pointer (some ⟨kp, 0, none⟩), sv, tv] h fun v h' => v = .int .i64 (eachD (ss.zip ts) d).1 ∧ ∃ I', IsRf rp (eachD (ss.zip ts) d).2 I' ∧ Own B [I', X] h' := by
  obtain ⟨sa, sc, rfl⟩ := hS.isS (o.satK 1 rfl)
  obtain ⟨ta, tc, rfl⟩ := hT.isS (o.satK 1 rfl)
  refine Spec.enter Tryz.func100 rfl Tryz.ntmps100 (by kernel_rfl) ?_
  generalize hRR : eachD (ss.zip ts) d = R
  refine LoopVC.intro [6, 7, 8, 9, 10, 11, 12, 13, 14, 15, 16, 17, 18, 19, 20, 21, 22, 23, 24, 25, 26, 27, 28, 29, 30] [7] (fun vs hh => ∃ (i : Nat) (d1 : Dk) (I1 : Item), i ≤ ss.length ∧ vs = [.int .i64 i] ∧ eachD ((ss.zip ts).drop i) d1 = R ∧ d1.q.length ≤ 1000 + i ∧ IsRf rp d1 I1 ∧ Own B [I1, X] hh) (fun vs _ => match vs with | [.int _ i] => ss.length - i.toNat | _ => 0) ?_ ?_
  · exact ⟨0, d, I, by omega, rfl, hRR, by omega, hI, o⟩
  · clear o hI
    rintro vs junk hh ⟨i, d1, I1, hi, rfl, hE, hq1, hI1, o⟩
    have h3 := hd _ (o.satK 1 rfl)
    have hR := (o.reads 1 hS rfl).to1
    have hR2 := (o.reads 1 hT rfl).to1
    have hnl : (natsV ss).length = ss.length := by simp
    have htl' : (strs ts).length = ts.length := by simp
    by_cases hlt : i < ss.length
    · obtain ⟨s, hs⟩ := getx hlt
      obtain ⟨t, ht'⟩ := getx (show i < ts.length by omega)
      have hzl : i < (ss.zip ts).length := by rw [List.length_zip]; omega
      have hze : (ss.zip ts)[i]'hzl = (s, t) := by
        have h1 : (ss.zip ts)[i]? = some (s, t) := List.getElem?_zip_eq_some.2 ⟨hs, ht'⟩
        rw [List.getElem?_eq_getElem hzl] at h1
        exact Option.some.inj h1
      rw [List.drop_eq_getElem_cons hzl, hze] at hE
      have htl := ht t (List.mem_of_getElem? ht')
      obtain ⟨wq1, _⟩ := write_q d1 s t
      rw [eachD_cons] at hE
      refine StillVC.run (StillVC.lenV rfl sl84 ?_)
      refine Br.dec (fun c41 => ?_) (fun hc => absurd (by omega) hc)
      refine DrawVC.intro [0, 1, 2, 4, 5, 6, 8, 9, 10, 13] [3, 7, 11] [12] [0, 1, 2, 3, 4, 5, 6, 7, 8, 9, 10, 11, 12, 13] mixed (by kernel_rfl) rfl (fun _ _ _ _ h => h) ?_
      refine StillVC.nilCheck rfl ?_
      refine StillVC.fieldAddr st98 rfl rfl rfl ?_
      refine StillVC.load1 ty53 rfl (by assumption) ?_
      refine StillVC.idx sl84 ty3 hR rfl (by omega) (by omega) ?_
      refine StillVC.loadM hR ty3 rfl (by first | assumption | rfl) ?_
      refine StillVC.idx sl22 ty9 hR2 rfl (by omega) (by omega) ?_
      refine StillVC.loadM hR2 ty9 rfl (by first | assumption | rfl) ?_
      refine CallVC.ret (rwrite_spec _ rp d1 I1 s t _ hI1 (o.lend [0] [1] rfl) (by omega) (by omega)) ?_
      rintro _ h5 ⟨rfl, I2, hI2, oc2⟩
      have o5 : Own B [I2, X] h5 := oc2.back
      clear oc2 hR hR2 o
      generalize hw : d1.write s t = wr at hE hI2 wq1
      obtain ⟨e, d2⟩ := wr
      simp only at hE hI2 wq1 ⊢
      by_cases he : e = 0
      · subst he
        simp only [ne_eq, not_true_eq_false, if_false] at hE
        refine Br.ff ?_
        refine Ar.i64 (by omega) (by omega) ?_
        refine ⟨rfl, ?_⟩
        exact ⟨⟨i + 1, d2, I2, by omega, by simp, hE, by omega, hI2, o5⟩, by simp only; omega⟩
      · rw [if_pos he] at hE
        refine Br.ndec (fun c70 => ?_) (fun hc => absurd hc (by first | omega | assumption | decide | exact rfl))
        refine RetVC.one rfl ?_
        rw [← hE]
        exact ⟨rfl, I2, hI2, o5⟩
    · have hdr : (ss.zip ts).drop i = [] := List.drop_eq_nil_of_le (by rw [List.length_zip]; omega)
      rw [hdr] at hE
      rw [eachD_nil] at hE
      clear hR hR2
      refine StillVC.run (StillVC.lenV rfl sl84 ?_)
      refine Br.dec (fun hc => absurd hc (by omega)) (fun c61 => ?_)
      refine StillVC.run (StillVC.nilCheck rfl ?_)
      refine StillVC.run (StillVC.fieldAddr st98 rfl rfl rfl ?_)
      refine StillVC.run (StillVC.load1 ty53 rfl (by assumption) ?_)
      refine CallVC.ret (rsync_spec _ rp d1 I1 _ hI1 (o.lend [0] [1] rfl) (by omega)) ?_
      rintro _ h5 ⟨rfl, I2, hI2, oc2⟩
      have o5 : Own B [I2, X] h5 := oc2.back
      clear oc2
      rw [hE] at hI2 ⊢
      refine RetVC.one rfl ?_
      exact ⟨rfl, I2, hI2, o5⟩

set_option maxRecDepth 100000 in
theorem kput_list (B : Base) (kp rp : Nat) (d : Dk) (I KS KT : Item) (cs : List Value) (Ls : List Item) (sv tv : Value) (ss : List Nat) (ts : List (List UInt8)) (h : Heap)
    (hI : IsRf rp d I) (o : Own B (I :: Ls) h) (hbox : box kp cs 98 ∈ Ls) (hc : cs[0]? = some (.pointer (some ⟨rp, 0, none⟩))) (hKS : KS ∈ Ls) (hKT : KT ∈ Ls) (hS : Reads KS 1 sv ss.length (natsV ss))
    (hT : Reads KT 1 tv ts.length (strs ts)) (hl : ss.length = ts.length) (hn : ss.length ≤ 5000) (hq : d.q.length ≤ 1000) (ht : ∀ t ∈ ts, t.length ≤ 1000000) :
    SpecR Tryz.prog 100 [.pointer (some ⟨kp, 0, none⟩), sv, tv] h fun v h' => v = .int .i64 (eachD (ss.zip ts) d).1 ∧ ∃ I', IsRf rp (eachD (ss.zip ts) d).2 I' ∧ Own B (I' :: Ls) h' := by
  refine (kput_spec B kp rp d I (sepI Ls) sv tv ss ts h hI ((Own.sep (M := [I]) (o.permL (List.perm_append_singleton I Ls).symm)).permL (List.Perm.swap _ _ _)) ?_ (Reads.sep hKS hS) (Reads.sep hKT hT) hl hn hq ht).mono ?_
  · intro h hx
    have hb : h[kp]? = some (.cells cs.toArray 98 (0, 0)) := hx.1 _ hbox
    simp [cellAt, hb, hc]
  · rintro v h' ⟨e, I', hI', oo⟩
    exact ⟨e, I', hI', (Own.unsep (M := [I']) (oo.permL (List.Perm.swap _ _ _))).permL (List.perm_append_singleton I' Ls)⟩

theorem textsD_snoc (gen frm : Nat) (xs : List (List UInt8)) (b : List UInt8) : textsD gen frm (xs ++ [b]) = textsD gen frm xs ++ [putL gen (frm + xs.length) b] := by
  simp [textsD, List.zipIdx_append]

set_option maxHeartbeats 4000000 in
set_option maxRecDepth 100000 in
theorem kwrite_spec (B : Base) (kp rp gen frm : Nat) (d : Dk) (I K : Item) (L : Lg) (lv bv : Value) (parts : List (List UInt8)) (h : Heap) (hg : gen ≤ 1000000000) (hp : frm + parts.length ≤ 4000) (hb4 : ∀ (i : Nat) (b : List UInt8), parts[i]? = some b → b.length ≤ 40)
    (hK : Reads K 1 bv parts.length (strs parts)) (hI : IsRf rp d I) (hq : d.q.length ≤ 1000)
    (o : Own B [I, box kp (klogC rp L lv) 98, K] h) :
    SpecR Tryz.prog 71 [.pointer (some ⟨kp, 0, none⟩), .int .i64 frm, .int .i64 gen, bv] h fun v h' => v = .int .i64 (runD [blanks (List.range' frm parts.length), datas gen frm parts] d).1 ∧ ∃ I', IsRf rp (runD [blanks (List.range' frm parts.length), datas gen frm parts] d).2 I' ∧ Own B [I', box kp (klogC rp L lv) 98, K] h' := by
  obtain ⟨sa, sc, rfl⟩ := hK.isS (o.satK 2 rfl)
  rw [runD_two, ← zip_blanks, ← zip_datas]
  refine Spec.enter Tryz.func71 rfl Tryz.ntmps71 (by kernel_rfl) ?_
  have o1 : Own B [I, box kp (klogC rp L lv) 98, K, row (.slice none 0 0) 3 1 0 [], row (.slice none 0 0) 9 1 0 []] _ := Own.nilRow (Own.nilRow o 3 1) 9 1
  clear o
  refine LoopVC.intro [9, 10, 11, 12, 13, 15, 16, 17, 18, 19, 20, 21, 22, 23, 24, 25, 26, 27, 28, 29, 30, 31, 32, 33, 34, 35, 36, 37, 38, 39, 40, 41, 42] [9, 10, 11] (fun vs hh => ∃ (i : Nat) (v4 v5 : Value), i ≤ parts.length ∧ vs = [v4, v5, .int .i64 i] ∧ Own B [I, box kp (klogC rp L lv) 98, K, row v4 3 1 i (natsV (List.range' frm i)), row v5 9 1 i (strs (textsD gen frm (parts.take i)))] hh) (fun vs _ => match vs with | [_, _, .int _ i] => parts.length - i.toNat | _ => 0) ?_ ?_
  · exact ⟨0, _, _, by omega, rfl, o1⟩
  · clear o1
    rintro vs junk hh ⟨i, v4, v5, hi, rfl, o⟩
    obtain ⟨xa, xc, rfl⟩ := o.rowIs 3 rfl
    obtain ⟨ya, yc, rfl⟩ := o.rowIs 4 rfl
    have hnl : (natsV (List.range' frm i)).length = i := by simp
    have htl : (textsD gen frm (parts.take i)).length = i := by rw [textsD_len, List.length_take]; omega
    have hsl : (strs (textsD gen frm (parts.take i))).length = i := by simp [htl]
    by_cases hlt : i < parts.length
    · obtain ⟨b, hb⟩ := getx hlt
      have hb40 := hb4 i b hb
      have ht : parts.take (i + 1) = parts.take i ++ [b] := by rw [List.take_add_one, hb]; rfl
      have hpl : (parts.take i).length = i := by rw [List.length_take]; omega
      have hR := (o.reads 2 hK rfl).to1
      have hpsl : (strs parts).length = parts.length := by simp
      refine StillVC.run (StillVC.lenV rfl sl22 ?_)
      refine Br.dec (fun c41 => ?_) (fun hc => absurd (by omega) hc)
      refine Ar.i64 (by omega) (by omega) ?_
      refine StillVC.run (StillVC.idx sl22 ty9 hR rfl (by omega) (by omega) ?_)
      refine StillVC.run (StillVC.loadM hR ty9 rfl (by first | assumption | rfl) ?_)
      have eC : (frm : Int) + (i : Int) = ((frm + i : Nat) : Int) := by omega
      refine CallVC.ret (refPut_spec gen ((frm : Int) + (i : Int)) b _ (by omega)) ?_
      rw [eC, putR_part hg (by omega) hb40]
      rintro _ h2 ⟨rfl, oc⟩
      have o2 := o.ext' oc
      clear oc o hR
      refine Ar.i64 (by omega) (by omega) ?_
      (refine RunVC.lit o2 sl84 ty3 rfl rfl (by decide) (And.intro rfl ?_); intro b60 m60 o60)
      (refine RunVC.append o60 3 rfl sl84 ty3 (by decide) (o60.boxArr 5 rfl (by simp) (by simp)).toN (by simp [Value.oneCell']) (by simp only [maxLen]; first | omega | (simp; omega)) (by first | omega | (simp; omega)) ?_; intro v61 m61 o61)
      (refine RunVC.lit o61 sl22 ty9 rfl rfl (by decide) (And.intro rfl ?_); intro b62 m62 o62)
      (refine RunVC.append o62 4 rfl sl22 ty9 (by decide) (o62.boxArr 6 rfl (by simp) (by simp)).toN (by simp [Value.oneCell']) (by simp only [maxLen]; first | omega | (simp; omega)) (by first | omega | (simp; omega)) ?_; intro v63 m63 o63)
      refine Ar.i64 (by omega) (by omega) ?_
      refine ⟨rfl, ?_⟩
      have e1 : natsV (List.range' frm (i + 1)) = natsV (List.range' frm i) ++ [Value.int IntKind.i64 ((frm : Int) + (i : Int))] := by
        rw [List.range'_1_concat]
        simp
      refine ⟨⟨i + 1, v61, v63, by omega, by simp, ?_⟩, by simp only; omega⟩
      rw [e1, ht, textsD_snoc, app_strs, hpl]
      exact o63.sel [0, 1, 2, 3, 4] rfl
    · obtain rfl : i = parts.length := by omega
      rw [List.take_length] at *
      have hlen : (List.range' frm parts.length).length = parts.length := by simp
      refine StillVC.run (StillVC.lenV rfl sl22 ?_)
      refine Br.dec (fun hc => absurd hc (by omega)) (fun c81 => ?_)
      refine StillVC.run (StillVC.lenV rfl sl84 ?_)
      refine CallVC.ret (kzeros_spec parts.length _ (by omega)) ?_
      intro zv h2 oc
      have o2 : Own B [I, box kp (klogC rp L lv) 98, K, row (.slice xa parts.length xc) 3 1 parts.length (natsV (List.range' frm parts.length)), row (.slice ya parts.length yc) 9 1 parts.length (strs (textsD gen frm parts)), row zv 9 1 parts.length (strs (List.replicate parts.length zS))] h2 := Own.call o oc
      clear oc o
      have hS : Reads (row (.slice xa parts.length xc) 3 1 parts.length (natsV (List.range' frm parts.length))) 1 (.slice xa parts.length xc) (List.range' frm parts.length).length (natsV (List.range' frm parts.length)) := by rw [hlen]; exact row_reads
      have hZ : Reads (row zv 9 1 parts.length (strs (List.replicate parts.length zS))) 1 zv (List.replicate parts.length zS).length (strs (List.replicate parts.length zS)) := by rw [List.length_replicate]; exact row_reads
      have hT : Reads (row (.slice ya parts.length yc) 9 1 parts.length (strs (textsD gen frm parts))) 1 (.slice ya parts.length yc) (textsD gen frm parts).length (strs (textsD gen frm parts)) := by rw [htl]; exact row_reads
      refine CallVC.ret (kput_list B kp rp d I _ _ (klogC rp L lv) _ _ zv (List.range' frm parts.length) (List.replicate parts.length zS) _ hI o2 (by simp) rfl (by simp) (by simp) hS hZ (by simp) (by omega) hq ?_) ?_
      · intro t ht'
        rw [(List.mem_replicate.1 ht').2]
        decide
      rintro _ h3 ⟨rfl, I3, hI3, o3⟩
      have hq2 := eachD_q ((List.range' frm parts.length).zip (List.replicate parts.length zS)) d
      generalize eachD ((List.range' frm parts.length).zip (List.replicate parts.length zS)) d = r1 at hI3 hq2 ⊢
      obtain ⟨e1, d1⟩ := r1
      simp only at hI3 hq2 ⊢
      clear o2
      by_cases he : e1 = 0
      · subst he
        have hq3 := hq2 rfl
        simp only [ne_eq, not_true_eq_false, if_false]
        refine Br.tt ?_
        refine CallVC.ret (kput_list B kp rp d1 I3 _ _ (klogC rp L lv) _ _ (.slice ya parts.length yc) (List.range' frm parts.length) (textsD gen frm parts) _ hI3 o3 (by simp) rfl (by simp) (by simp) hS hT (by simp [textsD_len]) (by omega) (by rw [hq3]; simp) ?_) ?_
        · intro t ht'
          obtain ⟨i, hi⟩ := List.mem_iff_getElem?.1 ht'
          have hil : i < parts.length := by rw [← textsD_len gen frm parts]; exact (List.getElem?_eq_some_iff.1 hi).1
          obtain ⟨b, hb⟩ := getx hil
          rw [textsD_get hb] at hi
          cases hi
          rw [putL_len (hb4 i b hb)]
          decide
        rintro _ h4 ⟨rfl, I4, hI4, o4⟩
        generalize eachD ((List.range' frm parts.length).zip (textsD gen frm parts)) d1 = r2 at hI4 ⊢
        obtain ⟨e2, d2⟩ := r2
        simp only at hI4 ⊢
        clear o3
        refine RetVC.one rfl ?_
        by_cases he2 : e2 = 0
        · subst he2
          exact ⟨rfl, I4, hI4, o4.sel [0, 1, 2] rfl⟩
        · rw [if_pos he2]
          exact ⟨rfl, I4, hI4, o4.sel [0, 1, 2] rfl⟩
      · rw [if_pos he]
        refine Br.dec (fun hc => absurd hc (by omega)) (fun c110 => ?_)
        refine RetVC.one rfl ?_
        exact ⟨rfl, I3, hI3, o3.sel [0, 1, 2] rfl⟩

set_option maxHeartbeats 4000000 in
set_option maxRecDepth 100000 in
theorem kcommit_spec (B : Base) (kp rp gen len : Nat) (d : Dk) (I : Item) (L : Lg) (lv : Value) (h : Heap) (hs : (L.with gen len).s.Fits) (ha : L.at_ < 2) (hI : IsRf rp d I) (hq : d.q.length ≤ 1000)
    (o : Own B [I, box kp (klogC rp L lv) 98] h) :
    SpecR Tryz.prog 72 [.pointer (some ⟨kp, 0, none⟩), .int .i64 gen, .int .i64 len] h fun v h' =>
      ∃ r, r = runD [headW (1 - L.at_) (L.with gen len).s, headW L.at_ (L.with gen len).s] d ∧ v = .int .i64 r.1 ∧ ∃ I', IsRf rp r.2 I' ∧ Own B [I', box kp (klogC rp (if r.1 = 0 then { L.with gen len with at_ := 0 } else L) lv) 98] h' := by
  have hnum := hs.num
  simp only [Lg.with] at hnum
  generalize hR : runD [headW (1 - L.at_) (L.with gen len).s, headW L.at_ (L.with gen len).s] d = R
  refine Spec.enter Tryz.func72 rfl Tryz.ntmps72 (by kernel_rfl) ?_
  refine LoopVC.intro [6, 7, 8, 9, 10, 11, 12, 13, 14, 15, 16, 17, 18, 19, 20, 21, 22, 23, 24, 25, 26, 27, 28, 29, 30, 31, 32, 33, 34, 35, 36, 37, 38, 39, 40, 41] [7] (fun vs hh => ∃ (i : Nat) (d1 : Dk) (I1 : Item), i ≤ 2 ∧ vs = [.int .i64 i] ∧ runD ([headW (1 - L.at_) (L.with gen len).s, headW L.at_ (L.with gen len).s].drop i) d1 = R ∧ d1.q.length ≤ 1000 ∧ IsRf rp d1 I1 ∧ Own B [I1, box kp (klogC rp L lv) 98] hh) (fun vs _ => match vs with | [.int _ i] => 2 - i.toNat | _ => 0) ?_ ?_
  · exact ⟨0, d, I, by omega, rfl, hR, hq, hI, o⟩
  · clear o hI
    rintro vs junk hh ⟨i, d1, I1, hi, rfl, hE, hq1, hI1, o⟩
    have key : ∀ a, a < 2 → (i = 0 → a = 1 - L.at_) → (i = 1 → a = L.at_) → i < 2 → runD ([headW (1 - L.at_) (L.with gen len).s, headW L.at_ (L.with gen len).s].drop i) d1 = if (eachD (headW a (L.with gen len).s) d1).1 ≠ 0 then eachD (headW a (L.with gen len).s) d1 else runD ([headW (1 - L.at_) (L.with gen len).s, headW L.at_ (L.with gen len).s].drop (i + 1)) (eachD (headW a (L.with gen len).s) d1).2 := fun a _ h0 h1 h2 => by
      rcases (show i = 0 ∨ i = 1 by omega) with rfl | rfl
      · rw [h0 rfl]; rfl
      · rw [h1 rfl]; rfl
    by_cases hlt : i < 2
    · by_cases hi0 : i = 0
      · rw [key (1 - L.at_) (by omega) (fun _ => rfl) (fun h => by omega) hlt] at hE
        have e1 : (1 : Int) - (L.at_ : Int) = ((1 - L.at_ : Nat) : Int) := by omega
        have e2 : (L.s.num : Int) + 1 = (((L.with gen len).s.num : Nat) : Int) := by simp only [Lg.with]; omega
        refine Br.dec (fun c40 => ?_) (fun hc => absurd (by omega) hc)
        refine StillVC.run (StillVC.nilCheck rfl ?_)
        refine StillVC.run (StillVC.fieldAddr st98 rfl rfl rfl ?_)
        refine StillVC.run (StillVC.loadO o 1 rfl ty3 rfl rfl ?_)
        refine Ar.i64 (by omega) (by omega) ?_
        refine Br.dec (fun hc => absurd hc (by omega)) (fun c44 => ?_)
        (refine RunVC.lit o sl84 ty3 rfl rfl (by decide) (And.intro rfl ?_); intro b45 m45 o45)
        refine StillVC.run (StillVC.nilCheck rfl ?_)
        refine StillVC.run (StillVC.fieldAddr st98 rfl rfl rfl ?_)
        refine StillVC.run (StillVC.loadO o45 1 rfl ty3 rfl rfl ?_)
        refine Ar.i64 (by omega) (by omega) ?_
        rw [e1, e2]
        rw [e1] at o45
        refine CallVC.ret (kheads_spec (L.with gen len).s (1 - L.at_) _ hs (by omega)) ?_
        rintro _ h2 ⟨rfl, oc⟩
        (refine RunVC.lit oc sl22 ty9 rfl rfl (by decide) (And.intro rfl ?_); intro b60 m60 o60)
        have oP : Own B [I1, box kp (klogC rp L lv) 98, box b45 [.int .i64 (((1 - L.at_) : Nat) : Int)] 3, box b60 [.string ⟨⟨headL (1 - L.at_) (L.with gen len).s⟩⟩] 9] m60 := Own.call o45 o60
        clear o60 o45 oc o
        refine CallVC.ret (kput_list B kp rp d1 I1 _ _ (klogC rp L lv) _ (.slice (some ⟨b45, 0, none⟩) 1 1) (.slice (some ⟨b60, 0, none⟩) 1 1) [(1 - L.at_)] [headL (1 - L.at_) (L.with gen len).s] _ hI1 oP List.mem_cons_self rfl (List.mem_cons_of_mem _ List.mem_cons_self) (List.mem_cons_of_mem _ (List.mem_cons_of_mem _ List.mem_cons_self)) (box_reads rfl (by decide)) (box_reads rfl (by decide)) rfl (by simp) hq1 (by simp [headL_len])) ?_
        have hz : [(1 - L.at_)].zip [headL (1 - L.at_) (L.with gen len).s] = headW (1 - L.at_) (L.with gen len).s := rfl
        rw [hz]
        have hq2 := eachD_q (headW (1 - L.at_) (L.with gen len).s) d1
        generalize eachD (headW (1 - L.at_) (L.with gen len).s) d1 = r1 at hE hq2 ⊢
        obtain ⟨e, d2⟩ := r1
        simp only at hE hq2 ⊢
        rintro _ h3 ⟨rfl, I3, hI3, o3⟩
        clear oP
        by_cases he : e = 0
        · subst he
          have hq3 := hq2 rfl
          rw [if_neg (by simp)] at hE
          refine Br.ff ?_
          refine Ar.i64 (by omega) (by omega) ?_
          refine ⟨rfl, ?_⟩
          exact ⟨⟨i + 1, d2, I3, by omega, by simp, hE, by rw [hq3]; simp, hI3, o3.sel [0, 1] rfl⟩, by simp only; omega⟩
        · rw [if_pos he] at hE
          refine Br.ndec (fun c80 => ?_) (fun hc => absurd hc (by first | omega | assumption | decide | exact rfl))
          refine RetVC.one rfl ?_
          refine ⟨_, hE, rfl, I3, hI3, ?_⟩
          rw [if_neg he]
          exact o3.sel [0, 1] rfl
      · rw [key L.at_ ha (fun h => by omega) (fun _ => rfl) hlt] at hE
        have e2 : (L.s.num : Int) + 1 = (((L.with gen len).s.num : Nat) : Int) := by simp only [Lg.with]; omega
        refine Br.dec (fun c40 => ?_) (fun hc => absurd (by omega) hc)
        refine StillVC.run (StillVC.nilCheck rfl ?_)
        refine StillVC.run (StillVC.fieldAddr st98 rfl rfl rfl ?_)
        refine StillVC.run (StillVC.loadO o 1 rfl ty3 rfl rfl ?_)
        refine Ar.i64 (by omega) (by omega) ?_
        refine Br.dec (fun c44 => ?_) (fun hc => absurd (by omega) hc)
        refine StillVC.run (StillVC.nilCheck rfl ?_)
        refine StillVC.run (StillVC.fieldAddr st98 rfl rfl rfl ?_)
        refine StillVC.run (StillVC.loadO o 1 rfl ty3 rfl rfl ?_)
        (refine RunVC.lit o sl84 ty3 rfl rfl (by decide) (And.intro rfl ?_); intro b48 m48 o48)
        refine StillVC.run (StillVC.nilCheck rfl ?_)
        refine StillVC.run (StillVC.fieldAddr st98 rfl rfl rfl ?_)
        refine StillVC.run (StillVC.loadO o48 1 rfl ty3 rfl rfl ?_)
        refine Ar.i64 (by omega) (by omega) ?_
        rw [e2]
        refine CallVC.ret (kheads_spec (L.with gen len).s L.at_ _ hs (by omega)) ?_
        rintro _ h2 ⟨rfl, oc⟩
        (refine RunVC.lit oc sl22 ty9 rfl rfl (by decide) (And.intro rfl ?_); intro b60 m60 o60)
        have oP : Own B [I1, box kp (klogC rp L lv) 98, box b48 [.int .i64 ((L.at_ : Nat) : Int)] 3, box b60 [.string ⟨⟨headL L.at_ (L.with gen len).s⟩⟩] 9] m60 := Own.call o48 o60
        clear o60 o48 oc o
        refine CallVC.ret (kput_list B kp rp d1 I1 _ _ (klogC rp L lv) _ (.slice (some ⟨b48, 0, none⟩) 1 1) (.slice (some ⟨b60, 0, none⟩) 1 1) [L.at_] [headL L.at_ (L.with gen len).s] _ hI1 oP List.mem_cons_self rfl (List.mem_cons_of_mem _ List.mem_cons_self) (List.mem_cons_of_mem _ (List.mem_cons_of_mem _ List.mem_cons_self)) (box_reads rfl (by decide)) (box_reads rfl (by decide)) rfl (by simp) hq1 (by simp [headL_len])) ?_
        have hz : [L.at_].zip [headL L.at_ (L.with gen len).s] = headW L.at_ (L.with gen len).s := rfl
        rw [hz]
        have hq2 := eachD_q (headW L.at_ (L.with gen len).s) d1
        generalize eachD (headW L.at_ (L.with gen len).s) d1 = r1 at hE hq2 ⊢
        obtain ⟨e, d2⟩ := r1
        simp only at hE hq2 ⊢
        rintro _ h3 ⟨rfl, I3, hI3, o3⟩
        clear oP
        by_cases he : e = 0
        · subst he
          have hq3 := hq2 rfl
          rw [if_neg (by simp)] at hE
          refine Br.ff ?_
          refine Ar.i64 (by omega) (by omega) ?_
          refine ⟨rfl, ?_⟩
          exact ⟨⟨i + 1, d2, I3, by omega, by simp, hE, by rw [hq3]; simp, hI3, o3.sel [0, 1] rfl⟩, by simp only; omega⟩
        · rw [if_pos he] at hE
          refine Br.ndec (fun c80 => ?_) (fun hc => absurd hc (by first | omega | assumption | decide | exact rfl))
          refine RetVC.one rfl ?_
          refine ⟨_, hE, rfl, I3, hI3, ?_⟩
          rw [if_neg he]
          exact o3.sel [0, 1] rfl
    · obtain rfl : i = 2 := by omega
      have hE : (0, d1) = R := hE
      refine Br.ff ?_
      refine StillVC.run (StillVC.nilCheck rfl ?_)
      refine StillVC.run (StillVC.fieldAddr st98 rfl rfl rfl ?_)
      (refine RunVC.store o 1 rfl ty3 rfl (by simp) (And.intro ⟨rfl, rfl⟩ ?_); intro m82 o82)
      refine StillVC.run (StillVC.nilCheck rfl ?_)
      refine StillVC.run (StillVC.fieldAddr st98 rfl rfl rfl ?_)
      refine StillVC.run (StillVC.loadO o82 1 rfl ty3 rfl rfl ?_)
      refine Ar.i64 (by omega) (by omega) ?_
      refine StillVC.run (StillVC.nilCheck rfl ?_)
      refine StillVC.run (StillVC.fieldAddr st98 rfl rfl rfl ?_)
      (refine RunVC.store o82 1 rfl ty3 rfl (by simp) (And.intro ⟨rfl, rfl⟩ ?_); intro m88 o88)
      refine StillVC.run (StillVC.nilCheck rfl ?_)
      refine StillVC.run (StillVC.fieldAddr st98 rfl rfl rfl ?_)
      (refine RunVC.store o88 1 rfl ty3 rfl (by simp) (And.intro ⟨rfl, rfl⟩ ?_); intro m91 o91)
      refine StillVC.run (StillVC.nilCheck rfl ?_)
      refine StillVC.run (StillVC.fieldAddr st98 rfl rfl rfl ?_)
      (refine RunVC.store o91 1 rfl ty3 rfl (by simp) (And.intro ⟨rfl, rfl⟩ ?_); intro m94 o94)
      refine RetVC.one rfl ?_
      refine ⟨_, hE, rfl, I1, hI1, ?_⟩
      rw [if_pos rfl]
      show Own B [I1, box kp [.pointer (some ⟨rp, 0, none⟩), .int .i64 L.n, .int .i64 ((0 : Nat) : Int), .int .i64 ((L.s.num + 1 : Nat) : Int), .int .i64 gen, .int .i64 len, lv, .bool L.broken] _] _
      rw [show ((L.s.num + 1 : Nat) : Int) = (L.s.num : Int) + 1 from by omega]
      exact o94

end Go.Proofs.YtfjajkgfgigodaaGreatDoor

/- The reference log: what a head says, and the records of bodies. -/
namespace Go.Proofs.YtfjajkgfgigodaaGreatDoor
open Go

/-- What the reference says of a head. -/
def headV : Option St → List Value
  | some s => [.int .i64 s.num, .int .i64 s.gen, .int .i64 s.len]
  | none => [.int .i64 (-1), .int .i64 0, .int .i64 0]

theorem headB_cut {b : List UInt8} (h1 : b.length = 38) (h2 : b.take 19 = b.drop 19) (h3 : (b.take 9).all isDig = true) (h4 : ((b.take 15).drop 9).all isDig = true) (h5 : ((b.take 19).drop 15).all isDig = true) : headB b = true := by
  refine headB_iff.2 ⟨h1, h2, ?_⟩
  have e1 : b.take 15 = b.take 9 ++ (b.take 15).drop 9 := by
    conv => lhs; rw [← List.take_append_drop 9 (b.take 15)]
    rw [List.take_take]; rfl
  have e2 : b.take 19 = b.take 15 ++ (b.take 19).drop 15 := by
    conv => lhs; rw [← List.take_append_drop 15 (b.take 19)]
    rw [List.take_take]; rfl
  have e3 : ∀ c ∈ b.take 19, isDig c = true := by
    rw [e2, e1]
    intro c hc
    rcases List.mem_append.1 hc with hc | hc
    · rcases List.mem_append.1 hc with hc | hc
      · exact List.all_eq_true.1 h3 c hc
      · exact List.all_eq_true.1 h4 c hc
    · exact List.all_eq_true.1 h5 c hc
  intro c hc
  rw [← List.take_append_drop 19 b, ← h2] at hc
  rcases List.mem_append.1 hc with hc | hc <;> exact e3 c hc

theorem headB_all {b : List UInt8} (h : headB b = true) : (b.take 9).all isDig = true ∧ ((b.take 15).drop 9).all isDig = true ∧ ((b.take 19).drop 15).all isDig = true := by
  obtain ⟨_, _, h3⟩ := headB_iff.1 h
  exact ⟨List.all_eq_true.2 fun c hc => h3 c (List.mem_of_mem_take hc), List.all_eq_true.2 fun c hc => h3 c (List.mem_of_mem_take (List.mem_of_mem_drop hc)), List.all_eq_true.2 fun c hc => h3 c (List.mem_of_mem_take (List.mem_of_mem_drop hc))⟩

theorem kval_cases (l : List UInt8) : (l.all isDig = true ∧ kval l = numL l) ∨ (l.all isDig = false ∧ kval l = -1) := by
  unfold kval
  cases l.all isDig with
  | true => exact .inl ⟨rfl, rfl⟩
  | false => exact .inr ⟨rfl, rfl⟩

set_option maxHeartbeats 4000000 in
set_option maxRecDepth 100000 in
theorem khead_spec (a n : Nat) (sec : List UInt8) (h : Heap) (_ha : a < 4000) (hl : sec.length ≤ 1000) (h2 : 2 ≤ n) (h4 : n ≤ 4000) : SpecR Tryz.prog 66 [.int .i64 a, .string ⟨⟨sec⟩⟩, .int .i64 n] h fun v h' => v = .agg ⟨headV (parseH a sec (halfN n))⟩ ∧ Own h [] h' := by
  have o0 := Own.refl h
  generalize hR : parseH a sec (halfN n) = R
  unfold parseH at hR
  refine Spec.enter Tryz.func66 rfl Tryz.ntmps66 (by kernel_rfl) ?_
  (refine RunVC.alloc o0 ty95 ?_; intro b20 m20 o20)
  refine StillVC.run (StillVC.buildA arr95 ty95 rfl rfl rfl (And.intro rfl ?_))
  (refine RunVC.alloc o20 ty95 ?_; intro b22 m22 o22)
  (refine RunVC.storeL o22 1 rfl ty95 rfl (by decide) (And.intro ⟨rfl, rfl⟩ ?_); intro m23 o23)
  refine CallVC.ret (refGet_spec 0 a sec _ (by omega)) ?_
  generalize getR 0 (a : Int) sec = g at hR ⊢
  obtain ⟨b, e⟩ := g
  simp only at hR ⊢
  rintro _ m1 ⟨rfl, oc⟩
  have o1 := o23.ext' oc
  clear o0 o23 oc
  have bad : ∀ (_ : R = none) (hh : Heap), Own ⟨h, []⟩ [] hh → Value.agg ⟨[.int .i64 (-1), .int .i64 0, .int .i64 0]⟩ = Value.agg ⟨headV R⟩ ∧ Own ⟨h, []⟩ [] hh := fun e hh o => by
    rw [e]
    exact ⟨rfl, o⟩
  by_cases he : e = 0
  · by_cases hbl : b.length = 38
    · by_cases hte : List.drop (Int.toNat 0) (List.take (Int.toNat 19) b) = List.drop (Int.toNat 19) (List.take ((b.length : Nat) : Int).toNat b)
      · skip
        refine DrawVC.intro [0, 1, 2, 3, 4, 5, 6, 7, 8, 9, 10, 11, 12, 13] [] [] [0, 1, 2, 3, 4, 5, 6, 7, 8, 9, 10, 11, 12, 13] mixed (by kernel_rfl) rfl (fun _ _ _ _ h => h) ?_
        refine Br.ndec (fun hc => absurd (by first | omega | assumption | decide | exact rfl) hc) (fun c40 => ?_)
        refine StillVC.lenS rfl str9 ?_
        refine Br.ndec (fun hc => absurd (by first | omega | assumption | decide | exact rfl) hc) (fun c42 => ?_)
        refine StillVC.sliceS str9 rfl rfl ⟨_, rfl⟩ (by omega) (by omega) (by omega) ?_
        refine StillVC.sliceS str9 rfl ⟨_, rfl⟩ rfl (by omega) (by omega) (by omega) ?_
        refine Br.ndec (fun hc => absurd (by first | omega | assumption | decide | exact rfl) hc) (fun c45 => ?_)
        have hl1 : (List.drop (Int.toNat 0) (List.take (Int.toNat 9) b)).length ≤ 17 := by simp; omega
        have hl2 : (List.drop (Int.toNat 9) (List.take (Int.toNat 15) b)).length ≤ 17 := by simp; omega
        have hl3 : (List.drop (Int.toNat 15) (List.take (Int.toNat 19) b)).length ≤ 17 := by simp; omega
        generalize hp1 : List.drop (Int.toNat 0) (List.take (Int.toNat 9) b) = p1 at hl1
        generalize hp2 : List.drop (Int.toNat 9) (List.take (Int.toNat 15) b) = p2 at hl2
        generalize hp3 : List.drop (Int.toNat 15) (List.take (Int.toNat 19) b) = p3 at hl3
        refine DrawVC.join [10, 33, 34, 35, 36, 37, 38, 39, 40, 41, 42] [10] (fun vs h' => ∃ b10, vs = [.pointer (some ⟨b10, 0, none⟩)] ∧ Own ⟨h, []⟩ [box b20 [.int .i64 0, .int .i64 0, .int .i64 0] 95, box b22 [.int .i64 (-1), .int .i64 0, .int .i64 0] 95, box b10 [.int .i64 (kval p1), .int .i64 (kval p2), .int .i64 (kval p3)] 95] h') ?_ ?_
        · skip
          refine DrawVC.introMT [0, 1, 3, 4, 6, 7, 9] [] [2, 5, 8, 10, 11] (.one 0 (.one 1 (.one 3 (.one 4 (.one 6 (.one 7 (.fork 2 10 (.fork 5 10 (.fork 8 10 (.one 9 (.one 10 (.one 11 .done))) (.one 8 (.one 9 (.one 11 .done)))) (.one 5 (.one 8 (.one 9 (.one 11 .done))))) (.one 2 (.one 5 (.one 8 (.one 9 (.one 11 .done)))))))))))) mixed (by kernel_rfl) rfl (fun _ _ _ _ h => h) ?_
          have hO := And.intro trivial o1
          clear o1
          refine StillVC.sliceS str9 rfl rfl ⟨_, rfl⟩ (by omega) (by omega) (by omega) ?_
          refine StillVC.sliceS str9 rfl ⟨_, rfl⟩ ⟨_, rfl⟩ (by omega) (by omega) (by omega) ?_
          refine StillVC.sliceS str9 rfl ⟨_, rfl⟩ ⟨_, rfl⟩ (by omega) (by omega) (by omega) ?_
          refine And.intro ?_ ?_
          · rw [hp1]
            refine CallVC.ret (kvalue_spec p1 _ hl1) ?_
            rintro _ h2 ⟨rfl, oc1⟩
            refine And.intro ?_ ?_
            · rw [hp2]
              refine CallVC.ret (kvalue_spec p2 _ hl2) ?_
              rintro _ h3 ⟨rfl, oc2⟩
              have oz : Own ⟨m1, []⟩ [] h3 := oc1.ext' oc2
              clear oc2
              refine And.intro ?_ ?_
              · rw [hp3]
                refine CallVC.ret (kvalue_spec p3 _ hl3) ?_
                rintro _ h4 ⟨rfl, oc3⟩
                have oy : Own ⟨m1, []⟩ [] h4 := oz.ext' oc3
                clear oc3
                refine StillVC.buildA arr95 ty95 rfl rfl rfl (And.intro rfl ?_)
                (refine RunVC.alloc oy ty95 ?_; intro b81 m81 o81)
                (refine RunVC.storeL o81 0 rfl ty95 rfl (by decide) (And.intro ⟨rfl, rfl⟩ ?_); intro m82 o82)
                refine ⟨rfl, ?_⟩
                exact ⟨_, rfl, Own.call hO.2 (by assumption)⟩
              · (refine RunVC.alloc oz ty95 ?_; intro b90 m90 o90)
                rw [hp3]
                refine CallVC.ret (kvalue_spec p3 _ hl3) ?_
                rintro _ h4 ⟨rfl, oc3⟩
                have oy := oc3.thenE (by assumption : Own ⟨m1, []⟩ _ _)
                clear oc3
                refine StillVC.buildA arr95 ty95 rfl rfl rfl (And.intro rfl ?_)
                (refine RunVC.storeL oy 0 rfl ty95 rfl (by decide) (And.intro ⟨rfl, rfl⟩ ?_); intro m101 o101)
                refine ⟨rfl, ?_⟩
                exact ⟨_, rfl, Own.call hO.2 (by assumption)⟩
            · (refine RunVC.alloc oc1 ty95 ?_; intro b110 m110 o110)
              rw [hp2]
              refine CallVC.ret (kvalue_spec p2 _ hl2) ?_
              rintro _ h3 ⟨rfl, oc2⟩
              have oz := oc2.thenE (by assumption : Own ⟨m1, []⟩ _ _)
              clear oc2
              rw [hp3]
              refine CallVC.ret (kvalue_spec p3 _ hl3) ?_
              rintro _ h4 ⟨rfl, oc3⟩
              have oy := oc3.thenE (by assumption : Own ⟨m1, []⟩ _ _)
              clear oc3
              refine StillVC.buildA arr95 ty95 rfl rfl rfl (And.intro rfl ?_)
              (refine RunVC.storeL oy 0 rfl ty95 rfl (by decide) (And.intro ⟨rfl, rfl⟩ ?_); intro m131 o131)
              refine ⟨rfl, ?_⟩
              exact ⟨_, rfl, Own.call hO.2 (by assumption)⟩
          · have or1 := Own.refl m1
            (refine RunVC.alloc or1 ty95 ?_; intro b140 m140 o140)
            rw [hp1]
            refine CallVC.ret (kvalue_spec p1 _ hl1) ?_
            rintro _ h2 ⟨rfl, oc1⟩
            have ox := oc1.thenE (by assumption : Own ⟨m1, []⟩ _ _)
            clear oc1
            rw [hp2]
            refine CallVC.ret (kvalue_spec p2 _ hl2) ?_
            rintro _ h3 ⟨rfl, oc2⟩
            have oz := oc2.thenE (by assumption : Own ⟨m1, []⟩ _ _)
            clear oc2
            rw [hp3]
            refine CallVC.ret (kvalue_spec p3 _ hl3) ?_
            rintro _ h4 ⟨rfl, oc3⟩
            have oy := oc3.thenE (by assumption : Own ⟨m1, []⟩ _ _)
            clear oc3
            refine StillVC.buildA arr95 ty95 rfl rfl rfl (And.intro rfl ?_)
            (refine RunVC.storeL oy 0 rfl ty95 rfl (by decide) (And.intro ⟨rfl, rfl⟩ ?_); intro m171 o171)
            refine ⟨rfl, ?_⟩
            exact ⟨_, rfl, Own.call hO.2 (by assumption)⟩
        · rintro vs junk h5 ⟨b10, rfl, o5⟩
          clear o1
          have hlen : b.length = 38 := hbl
          have hte2 : b.take 19 = b.drop 19 := by simpa using hte
          have no : headB b = false → R = none := fun hx => by
            rw [← hR, if_neg]
            rintro ⟨_, hy, _⟩
            rw [hx] at hy
            cases hy
          have e1 : p1 = b.take 9 := by rw [← hp1]; simp
          have e2 : p2 = (b.take 15).drop 9 := by rw [← hp2]; simp
          have e3 : p3 = (b.take 19).drop 15 := by rw [← hp3]; simp
          rcases kval_cases p1 with ⟨ha1, hk1⟩ | ⟨ha1, hk1⟩
          · rcases kval_cases p2 with ⟨ha2, hk2⟩ | ⟨ha2, hk2⟩
            · rcases kval_cases p3 with ⟨ha3, hk3⟩ | ⟨ha3, hk3⟩
              · rw [hk1, hk2, hk3] at o5
                have hB : headB b = true := headB_cut hlen hte2 (e1 ▸ ha1) (e2 ▸ ha2) (e3 ▸ ha3)
                refine DrawVC.intro [0, 2, 3, 4, 6, 7, 8, 9, 11, 12, 13, 14, 16, 18, 19] [1, 5, 10, 15] [] [0, 1, 2, 3, 4, 5, 6, 7, 8, 9, 10, 11, 12, 13, 14, 15, 16, 17, 18, 19] mixed (by kernel_rfl) rfl (fun _ _ _ _ h => h) ?_
                refine StillVC.idxArr arr95.arr arr95.el rfl rfl (by omega) (by omega) ?_
                refine StillVC.loadO o5 2 rfl ty3 rfl rfl ?_
                refine Br.dec (fun hc => absurd hc (by omega)) (fun c202 => ?_)
                refine StillVC.idxArr arr95.arr arr95.el rfl rfl (by omega) (by omega) ?_
                refine StillVC.loadO o5 2 rfl ty3 rfl rfl ?_
                refine Br.dec (fun hc => absurd hc (by omega)) (fun c205 => ?_)
                refine StillVC.idxArr arr95.arr arr95.el rfl rfl (by omega) (by omega) ?_
                refine StillVC.loadO o5 2 rfl ty3 rfl rfl ?_
                refine Br.dec (fun hc => absurd hc (by omega)) (fun c208 => ?_)
                refine StillVC.idxArr arr95.arr arr95.el rfl rfl (by omega) (by omega) ?_
                refine StillVC.loadO o5 2 rfl ty3 rfl rfl ?_
                refine CallVC.ret (khalf_spec n _ h2 h4) ?_
                rintro _ h6 ⟨rfl, oc⟩
                have o6 := o5.ext' oc
                refine And.intro oc.ext ?_
                clear oc o5
                have hst : stOf b = ⟨numL p1, numL p2, numL p3⟩ := by rw [e1, e2, e3]; rfl
                by_cases hle : numL p3 ≤ halfN n
                · have hR2 : R = some ⟨numL p1, numL p2, numL p3⟩ := by
                    rw [← hR, hst, if_pos ⟨he, hB, hle⟩]
                  refine Br.dec (fun hc => absurd hc (by omega)) (fun c240 => ?_)
                  refine StillVC.run (StillVC.loadON o6 2 rfl ty95 rfl rfl rfl ?_)
                  (refine RunVC.storeL o6 0 rfl ty95 rfl (by decide) (And.intro ⟨rfl, rfl⟩ ?_); intro m242 o242)
                  exact RetVC.cell1 rfl o242 0 rfl ty95 rfl rfl ⟨by rw [hR2]; rfl, o242.sel [] rfl⟩
                · have hn : R = none := by
                    rw [← hR, hst, if_neg]
                    rintro ⟨_, _, hx⟩
                    exact hle hx
                  refine Br.dec (fun c240 => ?_) (fun hc => absurd (by omega) hc)
                  refine StillVC.run (StillVC.loadON o6 1 rfl ty95 rfl rfl rfl ?_)
                  (refine RunVC.storeL o6 0 rfl ty95 rfl (by decide) (And.intro ⟨rfl, rfl⟩ ?_); intro m242 o242)
                  exact RetVC.cell1 rfl o242 0 rfl ty95 rfl rfl (bad hn _ (o242.sel [] rfl))
              · rw [hk1, hk2, hk3] at o5
                have hn : R = none := no (by cases hx : headB b with | true => (have := (headB_all hx).2.2; rw [← e3, ha3] at this; cases this) | false => rfl)
                refine DrawVC.intro [0, 2, 3, 4, 6, 7, 8, 9, 11, 12, 13, 14, 16, 18, 19] [1, 5, 10, 15] [] [0, 1, 2, 3, 4, 5, 6, 7, 8, 9, 10, 11, 12, 13, 14, 15, 16, 17, 18, 19] mixed (by kernel_rfl) rfl (fun _ _ _ _ h => h) ?_
                refine StillVC.idxArr arr95.arr arr95.el rfl rfl (by omega) (by omega) ?_
                refine StillVC.loadO o5 2 rfl ty3 rfl rfl ?_
                refine Br.dec (fun hc => absurd hc (by omega)) (fun c202 => ?_)
                refine StillVC.idxArr arr95.arr arr95.el rfl rfl (by omega) (by omega) ?_
                refine StillVC.loadO o5 2 rfl ty3 rfl rfl ?_
                refine Br.dec (fun hc => absurd hc (by omega)) (fun c205 => ?_)
                refine StillVC.idxArr arr95.arr arr95.el rfl rfl (by omega) (by omega) ?_
                refine StillVC.loadO o5 2 rfl ty3 rfl rfl ?_
                refine Br.tt ?_
                refine Br.tt ?_
                refine StillVC.run (StillVC.loadON o5 1 rfl ty95 rfl rfl rfl ?_)
                (refine RunVC.storeL o5 0 rfl ty95 rfl (by decide) (And.intro ⟨rfl, rfl⟩ ?_); intro m209 o209)
                exact RetVC.cell1 rfl o209 0 rfl ty95 rfl rfl (bad hn _ (o209.sel [] rfl))
            · rw [hk1, hk2] at o5
              have hn : R = none := no (by cases hx : headB b with | true => (have := (headB_all hx).2.1; rw [← e2, ha2] at this; cases this) | false => rfl)
              refine DrawVC.intro [0, 2, 3, 4, 6, 7, 8, 9, 11, 12, 13, 14, 16, 18, 19] [1, 5, 10, 15] [] [0, 1, 2, 3, 4, 5, 6, 7, 8, 9, 10, 11, 12, 13, 14, 15, 16, 17, 18, 19] mixed (by kernel_rfl) rfl (fun _ _ _ _ h => h) ?_
              refine StillVC.idxArr arr95.arr arr95.el rfl rfl (by omega) (by omega) ?_
              refine StillVC.loadO o5 2 rfl ty3 rfl rfl ?_
              refine Br.dec (fun hc => absurd hc (by omega)) (fun c202 => ?_)
              refine StillVC.idxArr arr95.arr arr95.el rfl rfl (by omega) (by omega) ?_
              refine StillVC.loadO o5 2 rfl ty3 rfl rfl ?_
              refine Br.tt ?_
              refine Br.tt ?_
              refine StillVC.run (StillVC.loadON o5 1 rfl ty95 rfl rfl rfl ?_)
              (refine RunVC.storeL o5 0 rfl ty95 rfl (by decide) (And.intro ⟨rfl, rfl⟩ ?_); intro m206 o206)
              exact RetVC.cell1 rfl o206 0 rfl ty95 rfl rfl (bad hn _ (o206.sel [] rfl))
          · rw [hk1] at o5
            have hn : R = none := no (by cases hx : headB b with | true => (have := (headB_all hx).1; rw [← e1, ha1] at this; cases this) | false => rfl)
            refine DrawVC.intro [0, 2, 3, 4, 6, 7, 8, 9, 11, 12, 13, 14, 16, 18, 19] [1, 5, 10, 15] [] [0, 1, 2, 3, 4, 5, 6, 7, 8, 9, 10, 11, 12, 13, 14, 15, 16, 17, 18, 19] mixed (by kernel_rfl) rfl (fun _ _ _ _ h => h) ?_
            refine StillVC.idxArr arr95.arr arr95.el rfl rfl (by omega) (by omega) ?_
            refine StillVC.loadO o5 2 rfl ty3 rfl rfl ?_
            refine Br.tt ?_
            refine Br.tt ?_
            refine StillVC.run (StillVC.loadON o5 1 rfl ty95 rfl rfl rfl ?_)
            (refine RunVC.storeL o5 0 rfl ty95 rfl (by decide) (And.intro ⟨rfl, rfl⟩ ?_); intro m203 o203)
            exact RetVC.cell1 rfl o203 0 rfl ty95 rfl rfl (bad hn _ (o203.sel [] rfl))
      · have hn : R = none := by
          rw [← hR, if_neg]
          rintro ⟨_, hx, _⟩
          have := (headB_iff.1 hx).2.1
          exact hte (by simpa using this)
        refine DrawVC.intro [0, 1, 2, 3, 4, 5, 6, 7, 8, 9, 10, 11, 12, 13] [] [] [0, 1, 2, 3, 4, 5, 6, 7, 8, 9, 10, 11, 12, 13] mixed (by kernel_rfl) rfl (fun _ _ _ _ h => h) ?_
        refine Br.ndec (fun hc => absurd (by first | omega | assumption | decide | exact rfl) hc) (fun c40 => ?_)
        refine StillVC.lenS rfl str9 ?_
        refine Br.ndec (fun hc => absurd (by first | omega | assumption | decide | exact rfl) hc) (fun c42 => ?_)
        refine StillVC.sliceS str9 rfl rfl ⟨_, rfl⟩ (by omega) (by omega) (by omega) ?_
        refine StillVC.sliceS str9 rfl ⟨_, rfl⟩ rfl (by omega) (by omega) (by omega) ?_
        refine Br.ndec (fun c45 => ?_) (fun hc => absurd hc (by first | omega | assumption | decide | exact rfl))
        refine StillVC.run (StillVC.loadON o1 1 rfl ty95 rfl rfl rfl ?_)
        (refine RunVC.storeL o1 0 rfl ty95 rfl (by decide) (And.intro ⟨rfl, rfl⟩ ?_); intro m47 o47)
        exact RetVC.cell1 rfl o47 0 rfl ty95 rfl rfl (bad hn _ (o47.sel [] rfl))
    · have hn : R = none := by
        rw [← hR, if_neg]
        rintro ⟨_, hx, _⟩
        exact hbl (headB_iff.1 hx).1
      refine DrawVC.intro [0, 1, 2, 3, 4, 5, 6, 7, 8, 9, 10, 11, 12, 13] [] [] [0, 1, 2, 3, 4, 5, 6, 7, 8, 9, 10, 11, 12, 13] mixed (by kernel_rfl) rfl (fun _ _ _ _ h => h) ?_
      refine Br.ndec (fun hc => absurd (by first | omega | assumption | decide | exact rfl) hc) (fun c40 => ?_)
      refine StillVC.lenS rfl str9 ?_
      refine Br.ndec (fun c42 => ?_) (fun hc => absurd hc (by first | omega | assumption | decide | exact rfl))
      refine Br.tt ?_
      refine StillVC.run (StillVC.loadON o1 1 rfl ty95 rfl rfl rfl ?_)
      (refine RunVC.storeL o1 0 rfl ty95 rfl (by decide) (And.intro ⟨rfl, rfl⟩ ?_); intro m44 o44)
      exact RetVC.cell1 rfl o44 0 rfl ty95 rfl rfl (bad hn _ (o44.sel [] rfl))
  · have hn : R = none := by
      rw [← hR, if_neg]
      rintro ⟨hx, _⟩
      exact he hx
    refine DrawVC.intro [0, 1, 2, 3, 4, 5, 6, 7, 8, 9, 10, 11, 12, 13] [] [] [0, 1, 2, 3, 4, 5, 6, 7, 8, 9, 10, 11, 12, 13] mixed (by kernel_rfl) rfl (fun _ _ _ _ h => h) ?_
    refine Br.ndec (fun c40 => ?_) (fun hc => absurd hc (by first | omega | assumption | decide | exact rfl))
    refine Br.tt ?_
    refine StillVC.run (StillVC.loadON o1 1 rfl ty95 rfl rfl rfl ?_)
    (refine RunVC.storeL o1 0 rfl ty95 rfl (by decide) (And.intro ⟨rfl, rfl⟩ ?_); intro m42 o42)
    exact RetVC.cell1 rfl o42 0 rfl ty95 rfl rfl (bad hn _ (o42.sel [] rfl))

theorem recs_first (bs out : List (List UInt8)) (frm i : Nat) (_h : i < bs.length) (hf : frm ≤ i) (he : (joinR ((bs.drop frm).take (i + 1 - frm))).2 = 0)
    (hno : ∀ m, 1 ≤ m → m ≤ i - frm → (joinR ((bs.drop frm).take m)).2 ≠ 0) (hr : recs bs = (recs (bs.drop frm)).map (fun l => out ++ l)) :
    recs bs = (recs (bs.drop (i + 1))).map (fun l => (out ++ [(joinR ((bs.drop frm).take (i + 1 - frm))).1]) ++ l) := by
  have h1 := recs_step (bs := bs.drop frm) (k := i + 1 - frm) (by omega) (by rw [List.length_drop]; omega) he (fun m h1 h2 => hno m h1 (by omega))
  rw [List.drop_drop, show frm + (i + 1 - frm) = i + 1 by omega] at h1
  rw [hr, h1]
  cases recs (bs.drop (i + 1)) with
  | none => rfl
  | some l => simp

set_option maxHeartbeats 4000000 in
set_option maxRecDepth 100000 in
theorem krecs_spec (bs : List (List UInt8)) (v : Value) (h : Heap) (hA : Arr h v (strs bs)) (hbl : bs.length ≤ 2000) (hb40 : ∀ b ∈ bs, b.length ≤ 40) :
    SpecR Tryz.prog 69 [v] h fun r h' => ∃ rv out, r = .tuple ⟨[rv, .bool (recs bs).isSome]⟩ ∧ (∀ l, recs bs = some l → out = l) ∧ out.length ≤ 2000 ∧ Own h [row rv 9 1 out.length (strs out)] h' := by
  have o0 := (Own.refl h).nilRow 9 1
  simp only [List.nil_append] at o0
  have hsl : (strs bs).length = bs.length := by simp
  have hA' := hA
  obtain ⟨aa, cc, hv, hcc, hrr⟩ := hA
  rw [hsl] at hv
  subst hv
  clear hcc hrr
  refine Spec.enter Tryz.func69 rfl Tryz.ntmps69 (by kernel_rfl) ?_
  refine LoopVC.intro [4, 5, 6, 7, 8, 9, 10, 11, 12, 13, 14, 15, 16, 17, 18, 19, 20, 21, 22, 23, 24, 25, 26, 27, 28, 29, 30, 31] [4, 5, 6] (fun vs hh => ∃ (i frm : Nat) (v1 : Value) (out : List (List UInt8)), i ≤ bs.length ∧ frm ≤ i ∧ vs = [v1, .int .i64 frm, .int .i64 i] ∧ out.length ≤ frm ∧ recs bs = (recs (bs.drop frm)).map (fun l => out ++ l) ∧ (∀ m, 1 ≤ m → m ≤ i - frm → (joinR ((bs.drop frm).take m)).2 ≠ 0) ∧ Own h [row v1 9 1 out.length (strs out)] hh) (fun vs _ => match vs with | [_, _, .int _ i] => bs.length - i.toNat | _ => 0) ?_ ?_
  · refine ⟨0, 0, _, [], by omega, by omega, rfl, by simp, ?_, fun m h1 h2 => by omega, o0⟩
    rw [List.drop_zero]
    cases recs bs <;> rfl
  · clear o0
    rintro vs junk hh ⟨i, frm, v1, out, hi, hfi, rfl, hol, hre, hno, o⟩
    have hA1 := hA'.ext o.ext
    obtain ⟨xa, xc, rfl⟩ := o.rowIs 0 rfl
    by_cases hlt : i < bs.length
    · have hbs : ∀ b ∈ (bs.drop frm).take (i + 1 - frm), b.length ≤ 40 := fun b hb => hb40 b (List.mem_of_mem_drop (List.mem_of_mem_take hb))
      have hfl := flat_le _ hbs
      have hjl : ((bs.drop frm).take (i + 1 - frm)).length ≤ 2000 := by rw [List.length_take, List.length_drop]; omega
      have hfirst := recs_first bs out frm i hlt hfi
      have hnot : ¬ (joinR ((bs.drop frm).take (i + 1 - frm))).2 = 0 → ∀ m, 1 ≤ m → m ≤ i + 1 - frm → (joinR ((bs.drop frm).take m)).2 ≠ 0 := fun hz m h1 h2 => by
        by_cases hm : m = i + 1 - frm
        · rw [hm]; exact hz
        · exact hno m h1 (by omega)
      refine StillVC.run (StillVC.lenV rfl sl22 ?_)
      refine Br.dec (fun c41 => ?_) (fun hc => absurd (by omega) hc)
      refine Ar.i64 (by omega) (by omega) ?_
      (refine StillVC.run (StillVC.sliceLH sl22 ty9 hA1 rfl rfl (by omega) (by omega) (by first | omega | (simp; omega)) ?_); intro v42 a42)
      have e1 : List.take (((i : Int) + 1).toNat - ((frm : Nat) : Int).toNat) (List.drop ((frm : Nat) : Int).toNat (strs bs)) = strs ((bs.drop frm).take (i + 1 - frm)) := by
        rw [show ((i : Int) + 1).toNat = i + 1 from by omega]
        simp [strs]
      rw [e1] at a42
      refine CallVC.ret (refJoin_spec _ v42 hh a42 (by omega) (by omega)) ?_
      generalize joinR ((bs.drop frm).take (i + 1 - frm)) = jr at hfirst hnot ⊢
      obtain ⟨r, e⟩ := jr
      simp only at hfirst hnot ⊢
      rintro _ h2 ⟨rfl, oc⟩
      have o2 := o.ext' oc
      clear oc o hA1 a42
      by_cases he : e = 0
      · refine Br.dec (fun c60 => ?_) (fun hc => absurd (by omega) hc)
        (refine RunVC.lit o2 sl22 ty9 rfl rfl (by decide) (And.intro rfl ?_); intro b61 m61 o61)
        (refine RunVC.append o61 0 rfl sl22 ty9 (by decide) (o61.boxArr 1 rfl (by simp) (by simp)).toN (by simp [Value.oneCell']) (by simp only [maxLen]; first | omega | (simp; omega)) (by first | omega | (simp; omega)) ?_; intro v62 m62 o62)
        refine Ar.i64 (by omega) (by omega) ?_
        refine Ar.i64 (by omega) (by omega) ?_
        refine ⟨rfl, ?_⟩
        obtain ⟨ya, yc, rfl⟩ := Own.rowIs (by assumption) 0 rfl
        refine ⟨⟨i + 1, i + 1, _, out ++ [r], by omega, by omega, rfl, by simp; omega, hfirst he hno hre, fun m h1 h2 => by omega, ?_⟩, by simp only; omega⟩
        rw [app_strs, List.length_append]
        exact Own.sel (by assumption) [0] rfl
      · refine Br.dec (fun hc => absurd hc (by omega)) (fun c60 => ?_)
        refine Ar.i64 (by omega) (by omega) ?_
        refine ⟨rfl, ?_⟩
        exact ⟨⟨i + 1, frm, _, out, by omega, by omega, rfl, hol, hre, hnot he, o2⟩, by simp only; omega⟩
    · obtain rfl : i = bs.length := by omega
      by_cases hfe : frm = bs.length
      · subst hfe
        refine StillVC.run (StillVC.lenV rfl sl22 ?_)
        refine Br.dec (fun hc => absurd hc (by omega)) (fun c61 => ?_)
        refine StillVC.run (StillVC.lenV rfl sl22 ?_)
        refine RetVC.two rfl ?_
        have hs : recs bs = some out := by
          rw [hre, List.drop_of_length_le (Nat.le_refl _), recs_nil]
          simp
        rw [hs]
        exact ⟨_, out, by simp, fun l hl => Option.some.inj hl, by omega, o⟩
      · refine StillVC.run (StillVC.lenV rfl sl22 ?_)
        refine Br.dec (fun hc => absurd hc (by omega)) (fun c61 => ?_)
        refine StillVC.run (StillVC.lenV rfl sl22 ?_)
        refine RetVC.two rfl ?_
        have hs : recs bs = none := by
          rw [hre, recs_bad (fun hx => by have := congrArg List.length hx; rw [List.length_drop] at this; simp at this; omega) (fun m h1 h2 => hno m h1 (by rw [List.length_drop] at h2; omega))]
          rfl
        rw [hs]
        refine ⟨_, out, ?_, fun l hl => (by cases hl), by omega, o⟩
        have : ¬ ((frm : Int) = (bs.length : Int)) := by omega
        simp [this]

end Go.Proofs.YtfjajkgfgigodaaGreatDoor

/- The reference log: Append, Records, Room. -/
namespace Go.Proofs.YtfjajkgfgigodaaGreatDoor
open Go

/-- What an operation of the reference's log leaves. -/
def KOpPost (B : Base) (rp kp : Nat) (r : Int × Lg × Dk) : Value → Heap → Prop := fun v h' => v = .int .i64 r.1 ∧ ∃ I' lv', IsRf rp r.2.2 I' ∧ Own B (I' :: KLogI kp rp r.2.1 lv') h'

/-- An operation's end. -/
def finL (L L' : Lg) (r : Int × Dk) : Int × Lg × Dk := if r.1 ≠ 0 then (r.1, { L with broken := true }, r.2) else (0, L', r.2)

theorem finL_ok (L L' : Lg) (d : Dk) : finL L L' (0, d) = (0, L', d) := rfl
theorem finL_bad {L L' : Lg} {e : Int} {d : Dk} (h : ¬ e = 0) : finL L L' (e, d) = (e, { L with broken := true }, d) := if_pos h

set_option maxHeartbeats 4000000 in
set_option maxRecDepth 100000 in
theorem krecords_spec (kp : Nat) (l : List (List UInt8)) (lv : Value) (h : Heap) (h6 : cellAt h ⟨kp, 6, none⟩ = some lv) (hA : Arr h lv (strs l)) (hl : l.length ≤ 100000) :
    SpecR Tryz.prog 32 [.pointer (some ⟨kp, 0, none⟩)] h fun v h' => Own h [row v 9 1 l.length (strs l)] h' := by
  have hsl : (strs l).length = l.length := by simp
  have hA' := hA
  obtain ⟨aa, cc, hv, hcc, hrr⟩ := hA
  rw [hsl] at hv
  subst hv
  have o0 := Own.refl h
  refine Spec.enter Tryz.func32 rfl Tryz.ntmps32 (by kernel_rfl) ?_
  refine RunVC.eqP (by kernel_rfl) rfl rfl ?_
  refine Br.ff ?_
  (refine RunVC.lit o0 sl22 ty9 rfl rfl (by decide) (And.intro rfl ?_); intro b21 m21 o21)
  refine StillVC.run (StillVC.nilCheck rfl ?_)
  refine StillVC.run (StillVC.fieldAddr st98 rfl rfl rfl ?_)
  refine StillVC.run (StillVC.load1 ty22 rfl (o21.old h6) ?_)
  have o22 : Own ⟨h, []⟩ [row (.slice (some ⟨b21, 0, none⟩) 0 0) 9 1 0 []] m21 := Own.boxRow o21 0 rfl 1 0 0 rfl (Nat.le_refl _) (by decide)
  clear o21
  (refine RunVC.append o22 0 rfl sl22 ty9 (by decide) (hA'.ext o22.ext).toN (by simp [Value.oneCell']) (by simp only [maxLen]; first | omega | (simp; omega)) (by first | omega | (simp; omega)) ?_; intro v30 m30 o30)
  refine RetVC.one rfl ?_
  have e1 : 0 + (strs l).length = l.length := by simp
  simp only [e1, List.nil_append] at o30
  exact o30

set_option maxHeartbeats 4000000 in
set_option maxRecDepth 100000 in
theorem krecords_nil (h : Heap) : SpecR Tryz.prog 32 [.pointer none] h fun v h' => v = .slice none 0 0 ∧ Own h [] h' := by
  refine Spec.enter Tryz.func32 rfl Tryz.ntmps32 (by kernel_rfl) ?_
  have o0 := Own.refl h
  refine RunVC.eqP (by kernel_rfl) rfl rfl ?_
  refine Br.tt ?_
  refine RetVC.one rfl ?_
  exact ⟨rfl, o0⟩

set_option maxHeartbeats 4000000 in
set_option maxRecDepth 100000 in
theorem kroom_spec (kp n len : Nat) (h : Heap) (h5 : cellAt h ⟨kp, 5, none⟩ = some (.int .i64 len)) (hc : cellAt h ⟨kp, 1, none⟩ = some (.int .i64 n)) (h2 : 2 ≤ n) (h4 : n ≤ 4000) (hl : len ≤ 100000) :
    SpecR Tryz.prog 33 [.pointer (some ⟨kp, 0, none⟩)] h fun v h' => v = .int .i64 ((halfN n : Int) - len) ∧ Own h [] h' := by
  refine Spec.enter Tryz.func33 rfl Tryz.ntmps33 (by kernel_rfl) ?_
  have o0 := Own.refl h
  have hh : halfN n ≤ 2000 := by unfold halfN; omega
  refine RunVC.eqP (by kernel_rfl) rfl rfl ?_
  refine Br.ff ?_
  refine DrawVC.intro [0, 1, 2, 5, 6, 7, 9, 10] [3, 8] [] [0, 1, 2, 3, 5, 6, 7, 8, 4, 9, 10] mixed (by kernel_rfl) rfl (fun _ _ _ _ h => h) ?_
  refine StillVC.nilCheck rfl ?_
  refine StillVC.fieldAddr st98 rfl rfl rfl ?_
  refine StillVC.load1 ty3 rfl (by assumption) ?_
  refine StillVC.nilCheck rfl ?_
  refine StillVC.fieldAddr st98 rfl rfl rfl ?_
  refine StillVC.load1 ty3 rfl (by assumption) ?_
  refine CallVC.ret (khalf_spec n _ h2 h4) ?_
  rintro _ h1 ⟨rfl, oc⟩
  have hl2 : cellAt h1 ⟨kp, 5, none⟩ = some (.int .i64 len) := oc.ext.cell h5
  (refine And.intro oc.ext ?_; have o40 := Own.call o0 oc; simp only [List.nil_append] at o40; clear oc)
  refine Ar.i64 (by omega) (by omega) ?_
  refine RetVC.one rfl ?_
  exact ⟨rfl, by assumption⟩

set_option maxHeartbeats 4000000 in
set_option maxRecDepth 100000 in
theorem kroom_nil (h : Heap) : SpecR Tryz.prog 33 [.pointer none] h fun v h' => v = .int .i64 0 ∧ Own h [] h' := by
  refine Spec.enter Tryz.func33 rfl Tryz.ntmps33 (by kernel_rfl) ?_
  have o0 := Own.refl h
  refine RunVC.eqP (by kernel_rfl) rfl rfl ?_
  refine Br.tt ?_
  refine RetVC.one rfl ?_
  exact ⟨rfl, o0⟩

set_option maxHeartbeats 4000000 in
set_option maxRecDepth 100000 in
theorem kappend_nil (h : Heap) (t : List UInt8) : SpecR Tryz.prog 34 [.pointer none, .string ⟨⟨t⟩⟩] h fun v h' => v = .int .i64 1 ∧ Own h [] h' := by
  refine Spec.enter Tryz.func34 rfl Tryz.ntmps34 (by kernel_rfl) ?_
  have o0 := Own.refl h
  refine RunVC.eqP (by kernel_rfl) rfl rfl ?_
  refine Br.tt ?_
  refine RetVC.one rfl ?_
  exact ⟨rfl, o0⟩

set_option maxHeartbeats 4000000 in
set_option maxRecDepth 100000 in
theorem krewrite_nil (h : Heap) (v : Value) : SpecR Tryz.prog 35 [.pointer none, v] h fun v h' => v = .int .i64 1 ∧ Own h [] h' := by
  refine Spec.enter Tryz.func35 rfl Tryz.ntmps35 (by kernel_rfl) ?_
  have o0 := Own.refl h
  refine RunVC.eqP (by kernel_rfl) rfl rfl ?_
  refine Br.tt ?_
  refine RetVC.one rfl ?_
  exact ⟨rfl, o0⟩

set_option maxHeartbeats 4000000 in
set_option maxRecDepth 100000 in
theorem kappend_spec (B : Base) (kp rp : Nat) (d : Dk) (I : Item) (L : Lg) (lv : Value) (t : List UInt8) (h : Heap) (hI : IsRf rp d I) (hq : d.q.length ≤ 1000) (hL : LOK L) (htl : t.length ≤ 1000000000)
    (o : Own B (I :: KLogI kp rp L lv) h) :
    SpecR Tryz.prog 34 [.pointer (some ⟨kp, 0, none⟩), .string ⟨⟨t⟩⟩] h (KOpPost B rp kp (appL L d t)) := by
  obtain ⟨la, lc, rfl⟩ := o.rowIs 2 rfl
  unfold KLogI at o
  have hf1 := hL.fits.num
  have hf2 := hL.fits.gen
  have hf3 := hL.fits.len
  have h6 := hL.n6
  have h4 := hL.n4
  have hll := hL.list
  have hhf := hL.half
  have hst := start_le L.n L.s.gen h6
  have hh : halfN L.n ≤ 2000 := by unfold halfN; omega
  have hb4 : ∀ (i : Nat) (b : List UInt8), (splitL t)[i]? = some b → b.length ≤ 40 := fun i b hb => ((split_shape t).2 i b hb).1
  have hap : appB L t = [blanks (List.range' (startN L.n L.s.gen + L.s.len) (splitL t).length), datas L.s.gen (startN L.n L.s.gen + L.s.len) (splitL t)] ++ [headW (1 - L.at_) (L.with L.s.gen (L.s.len + (splitL t).length)).s, headW L.at_ (L.with L.s.gen (L.s.len + (splitL t).length)).s] := rfl
  generalize hR : appL L d t = R
  unfold appL at hR
  refine Spec.enter Tryz.func34 rfl Tryz.ntmps34 (by kernel_rfl) ?_
  by_cases hbk : L.broken = true
  · rw [if_pos hbk] at hR
    simp only [klogC, hbk] at o
    refine RunVC.eqP (by kernel_rfl) rfl rfl ?_
    refine Br.ff ?_
    refine StillVC.run (StillVC.nilCheck rfl ?_)
    refine StillVC.run (StillVC.fieldAddr st98 rfl rfl rfl ?_)
    refine StillVC.run (StillVC.loadO o 1 rfl ty4 rfl rfl ?_)
    refine Br.tt ?_
    refine RetVC.one rfl ?_
    rw [← hR]
    exact ⟨rfl, I, _, hI, by simpa only [KLogI, klogC, hbk] using o⟩
  rw [if_neg hbk] at hR
  have hbk : L.broken = false := by simpa using hbk
  simp only [klogC, hbk] at o
  by_cases hlong : 2000 < t.length
  · rw [if_pos hlong] at hR
    refine RunVC.eqP (by kernel_rfl) rfl rfl ?_
    refine Br.ff ?_
    refine StillVC.run (StillVC.nilCheck rfl ?_)
    refine StillVC.run (StillVC.fieldAddr st98 rfl rfl rfl ?_)
    refine StillVC.run (StillVC.loadO o 1 rfl ty4 rfl rfl ?_)
    refine Br.ff ?_
    refine StillVC.run (StillVC.lenS rfl str9 ?_)
    refine Br.dec (fun c25 => ?_) (fun hc => absurd (by omega) hc)
    refine RetVC.one rfl ?_
    rw [← hR]
    exact ⟨rfl, I, _, hI, by simpa only [KLogI, klogC, hbk] using o⟩
  rw [if_neg hlong] at hR
  refine RunVC.eqP (by kernel_rfl) rfl rfl ?_
  refine Br.ff ?_
  refine StillVC.run (StillVC.nilCheck rfl ?_)
  refine StillVC.run (StillVC.fieldAddr st98 rfl rfl rfl ?_)
  refine StillVC.run (StillVC.loadO o 1 rfl ty4 rfl rfl ?_)
  refine Br.ff ?_
  refine StillVC.run (StillVC.lenS rfl str9 ?_)
  refine Br.dec (fun hc => absurd hc (by omega)) (fun c25 => ?_)
  refine CallVC.ret (refSplit_spec t _ (by omega)) ?_
  intro pv h3 oc
  have hpk := splitL_len2 (t := t) (by omega)
  have hpl : (strs (splitL t)).length = (splitL t).length := by simp
  obtain ⟨pa, pc, hpv, _⟩ := oc.roArr 0 rfl
  rw [hpl] at hpv
  subst hpv
  have o3 := Own.call o oc
  simp only [List.cons_append, List.nil_append] at o3
  clear oc o
  refine DrawVC.intro [0, 1, 2, 4, 5, 6, 7, 8, 9, 12, 13, 14, 15, 16, 18, 19] [3, 10, 17] [] [0, 1, 2, 3, 4, 5, 6, 7, 8, 9, 10, 11, 12, 13, 14, 15, 16, 17, 18, 19] mixed (by kernel_rfl) rfl (fun _ _ _ _ h => h) ?_
  refine StillVC.nilCheck rfl ?_
  refine StillVC.fieldAddr st98 rfl rfl rfl ?_
  refine StillVC.loadO o3 1 rfl ty3 rfl rfl ?_
  refine StillVC.lenV rfl sl22 ?_
  refine Ar.i64 (by omega) (by omega) ?_
  refine StillVC.nilCheck rfl ?_
  refine StillVC.fieldAddr st98 rfl rfl rfl ?_
  refine StillVC.loadO o3 1 rfl ty3 rfl rfl ?_
  refine CallVC.ret (khalf_spec L.n _ (by omega) h4) ?_
  rintro _ h5 ⟨rfl, oc⟩
  have o5 := o3.ext' oc
  refine And.intro oc.ext ?_
  clear o3 oc
  have ob : Own B [I, box kp (klogC rp L (.slice la L.list.length lc)) 98, row (.slice la L.list.length lc) 9 1 L.list.length (strs L.list), ro (.slice pa (splitL t).length pc) (strs (splitL t))] h5 := by simpa only [klogC, hbk] using o5
  have hob := And.intro trivial (ob.sel [0, 1, 2] rfl)
  clear ob
  by_cases hfull : halfN L.n < L.s.len + (splitL t).length ∨ L.s.num = 999999999
  · rw [if_pos hfull] at hR
    by_cases hf1 : halfN L.n < L.s.len + (splitL t).length
    · refine Br.dec (fun c60 => ?_) (fun hc => absurd (by omega) hc)
      refine Br.tt ?_
      refine RetVC.one rfl ?_
      rw [← hR]
      exact ⟨rfl, I, _, hI, hob.2⟩
    · have hf2 : L.s.num = 999999999 := by omega
      refine Br.dec (fun hc => absurd hc (by omega)) (fun c60 => ?_)
      refine StillVC.nilCheck rfl ?_
      refine StillVC.fieldAddr st98 rfl rfl rfl ?_
      refine StillVC.loadO o5 1 rfl ty3 rfl rfl ?_
      refine Br.dec (fun c64 => ?_) (fun hc => absurd (by omega) hc)
      refine RetVC.one rfl ?_
      rw [← hR]
      exact ⟨rfl, I, _, hI, hob.2⟩
  rw [if_neg hfull] at hR
  clear hob
  have hsum : L.s.len + (splitL t).length ≤ 2000 := by omega
  have hfit : (L.with L.s.gen (L.s.len + (splitL t).length)).s.Fits := ⟨by show L.s.num + 1 < _; omega, hf2, by show L.s.len + (splitL t).length < _; omega⟩
  have hrd : runD (appB L t) d = if (runD [blanks (List.range' (startN L.n L.s.gen + L.s.len) (splitL t).length), datas L.s.gen (startN L.n L.s.gen + L.s.len) (splitL t)] d).1 ≠ 0 then runD [blanks (List.range' (startN L.n L.s.gen + L.s.len) (splitL t).length), datas L.s.gen (startN L.n L.s.gen + L.s.len) (splitL t)] d else runD [headW (1 - L.at_) (L.with L.s.gen (L.s.len + (splitL t).length)).s, headW L.at_ (L.with L.s.gen (L.s.len + (splitL t).length)).s] (runD [blanks (List.range' (startN L.n L.s.gen + L.s.len) (splitL t).length), datas L.s.gen (startN L.n L.s.gen + L.s.len) (splitL t)] d).2 := by rw [hap, runD_append]
  replace hR : finL L ⟨appS L t, L.n, 0, L.list ++ [t], false⟩ (runD (appB L t) d) = R := hR
  rw [hrd] at hR
  refine Br.dec (fun hc => absurd hc (by omega)) (fun c60 => ?_)
  refine StillVC.nilCheck rfl ?_
  refine StillVC.fieldAddr st98 rfl rfl rfl ?_
  refine StillVC.loadO o5 1 rfl ty3 rfl rfl ?_
  refine Br.dec (fun hc => absurd hc (by omega)) (fun c64 => ?_)
  refine StillVC.run (StillVC.nilCheck rfl ?_)
  refine StillVC.run (StillVC.fieldAddr st98 rfl rfl rfl ?_)
  refine StillVC.run (StillVC.loadO o5 1 rfl ty3 rfl rfl ?_)
  refine DrawVC.intro [0, 1, 2, 3, 4, 7, 8, 9, 11, 12, 13, 14, 16, 18] [5, 10, 15] [17] [0, 1, 2, 3, 4, 5, 7, 8, 9, 10, 12, 13, 14, 15, 16, 6, 11, 17, 18] mixed (by kernel_rfl) rfl (fun _ _ _ _ h => h) ?_
  refine StillVC.nilCheck rfl ?_
  refine StillVC.fieldAddr st98 rfl rfl rfl ?_
  refine StillVC.loadO o5 1 rfl ty3 rfl rfl ?_
  refine StillVC.nilCheck rfl ?_
  refine StillVC.fieldAddr st98 rfl rfl rfl ?_
  refine StillVC.loadO o5 1 rfl ty3 rfl rfl ?_
  refine StillVC.nilCheck rfl ?_
  refine StillVC.fieldAddr st98 rfl rfl rfl ?_
  refine StillVC.loadO o5 1 rfl ty3 rfl rfl ?_
  refine CallVC.ret (kstart_spec kp L.n L.s.gen _ (o5.cellB 1 rfl 1) (by omega) h4 (by omega)) ?_
  rintro _ h6 ⟨rfl, oc⟩
  have o6 := o5.ext' oc
  refine And.intro oc.ext ?_
  refine Ar.i64 (by omega) (by omega) ?_
  have hKP : Reads (ro (.slice pa (splitL t).length pc) (strs (splitL t))) 1 (.slice pa (splitL t).length pc) (splitL t).length (strs (splitL t)) := by
    have := ro_reads (v := .slice pa (splitL t).length pc) (xs := strs (splitL t))
    rwa [hpl] at this
  have o7 : Own B [I, box kp (klogC rp L (.slice la L.list.length lc)) 98, row (.slice la L.list.length lc) 9 1 L.list.length (strs L.list), ro (.slice pa (splitL t).length pc) (strs (splitL t))] h6 := by simpa only [klogC, hbk] using o6
  have es : (startN L.n L.s.gen : Int) + (L.s.len : Int) = ((startN L.n L.s.gen + L.s.len : Nat) : Int) := by omega
  rw [es]
  refine CallVC.ret (kwrite_spec _ kp rp L.s.gen (startN L.n L.s.gen + L.s.len) d I _ L _ _ (splitL t) _ (by omega) (by omega) hb4 hKP hI hq (o7.lend [0, 1, 3] [2] rfl)) ?_
  have hq1 := runD_q' (b := blanks (List.range' (startN L.n L.s.gen + L.s.len) (splitL t).length)) (x := [datas L.s.gen (startN L.n L.s.gen + L.s.len) (splitL t)]) (d := d)
  generalize runD [blanks (List.range' (startN L.n L.s.gen + L.s.len) (splitL t).length), datas L.s.gen (startN L.n L.s.gen + L.s.len) (splitL t)] d = r1 at hR hq1 ⊢
  obtain ⟨e1, d1⟩ := r1
  simp only at hR hq1 ⊢
  rintro _ h7 ⟨rfl, I7, hI7, oc7⟩
  have o8 : Own B [I7, box kp (klogC rp L (.slice la L.list.length lc)) 98, ro (.slice pa (splitL t).length pc) (strs (splitL t)), row (.slice la L.list.length lc) 9 1 L.list.length (strs L.list)] h7 := oc7.back
  clear oc7 o7 o6 o5 oc
  by_cases he1 : e1 = 0
  · subst he1
    rw [if_neg (by simp)] at hR
    have hq2 := hq1 rfl
    refine Br.tt ?_
    refine DrawVC.intro [0, 1, 2, 3, 5, 6, 7, 9, 10, 11, 13] [4, 8] [12] [0, 1, 2, 3, 4, 5, 6, 7, 8, 9, 10, 11, 12, 13] mixed (by kernel_rfl) rfl (fun _ _ _ _ h => h) ?_
    refine StillVC.nilCheck rfl ?_
    refine StillVC.fieldAddr st98 rfl rfl rfl ?_
    refine StillVC.loadO o8 1 rfl ty3 rfl rfl ?_
    refine StillVC.nilCheck rfl ?_
    refine StillVC.fieldAddr st98 rfl rfl rfl ?_
    refine StillVC.loadO o8 1 rfl ty3 rfl rfl ?_
    refine StillVC.lenV rfl sl22 ?_
    refine Ar.i64 (by omega) (by omega) ?_
    have es2 : (L.s.len : Int) + ((splitL t).length : Int) = ((L.s.len + (splitL t).length : Nat) : Int) := by omega
    rw [es2]
    refine CallVC.ret (kcommit_spec _ kp rp L.s.gen (L.s.len + (splitL t).length) d1 I7 L _ _ hfit hL.at2 hI7 (by rw [hq2]; simp) (o8.lend [0, 1] [2, 3] rfl)) ?_
    rintro _ h9 ⟨r, hr, rfl, I9, hI9, oc9⟩
    rw [← hr] at hR
    obtain ⟨e2, d2⟩ := r
    simp only at hR hI9 oc9 ⊢
    by_cases he2 : e2 = 0
    · subst he2
      rw [finL_ok] at hR
      rw [if_pos rfl] at oc9
      have o9 : Own B [I9, box kp [.pointer (some ⟨rp, 0, none⟩), .int .i64 L.n, .int .i64 ((0 : Nat) : Int), .int .i64 ((L.s.num + 1 : Nat) : Int), .int .i64 L.s.gen, .int .i64 ((L.s.len + (splitL t).length : Nat) : Int), .slice la L.list.length lc, .bool L.broken] 98, ro (.slice pa (splitL t).length pc) (strs (splitL t)), row (.slice la L.list.length lc) 9 1 L.list.length (strs L.list)] h9 := oc9.back
      clear oc9 o8
      have hlsl : (strs L.list).length = L.list.length := by simp
      refine Br.ff ?_
      (refine RunVC.lit o9 sl22 ty9 rfl rfl (by decide) (And.intro rfl ?_); intro b120 m120 o120)
      refine StillVC.run (StillVC.nilCheck rfl ?_)
      refine StillVC.run (StillVC.fieldAddr st98 rfl rfl rfl ?_)
      refine StillVC.run (StillVC.loadO o120 1 rfl ty22 rfl rfl ?_)
      have o121 : Own B [I9, box kp [.pointer (some ⟨rp, 0, none⟩), .int .i64 L.n, .int .i64 ((0 : Nat) : Int), .int .i64 ((L.s.num + 1 : Nat) : Int), .int .i64 L.s.gen, .int .i64 ((L.s.len + (splitL t).length : Nat) : Int), .slice la L.list.length lc, .bool L.broken] 98, ro (.slice pa (splitL t).length pc) (strs (splitL t)), row (.slice la L.list.length lc) 9 1 L.list.length (strs L.list), row (.slice (some ⟨b120, 0, none⟩) 0 0) 9 1 0 []] m120 := Own.boxRow o120 4 rfl 1 0 0 rfl (Nat.le_refl _) (by decide)
      clear o120
      (refine RunVC.append o121 4 rfl sl22 ty9 (by decide) (o121.rowArr 3 rfl).toN (by simp [Value.oneCell']) (by simp only [maxLen]; first | omega | (simp; omega)) (by first | omega | (simp; omega)) ?_; intro v130 m130 o130)
      (refine RunVC.lit o130 sl22 ty9 rfl rfl (by decide) (And.intro rfl ?_); intro b131 m131 o131)
      (refine RunVC.append o131 4 rfl sl22 ty9 (by decide) (o131.boxArr 5 rfl (by simp) (by simp)).toN (by simp [Value.oneCell']) (by simp only [maxLen]; first | omega | (simp; omega)) (by first | omega | (simp; omega)) ?_; intro v132 m132 o132)
      refine StillVC.run (StillVC.nilCheck rfl ?_)
      refine StillVC.run (StillVC.fieldAddr st98 rfl rfl rfl ?_)
      obtain ⟨va, vc, rfl⟩ := o132.rowIs 4 rfl
      (refine RunVC.store o132 1 rfl ty22 rfl (by simp) (And.intro ⟨rfl, rfl⟩ ?_); intro m140 o140)
      refine RetVC.one rfl ?_
      rw [← hR]
      refine ⟨rfl, I9, .slice va (0 + (strs L.list).length + [Value.string ⟨⟨t⟩⟩].length) vc, hI9, ?_⟩
      have e5 : (L.list ++ [t]).length = 0 + (strs L.list).length + [Value.string ⟨⟨t⟩⟩].length := by simp
      show Own B [I9, box kp [.pointer (some ⟨rp, 0, none⟩), .int .i64 L.n, .int .i64 ((0 : Nat) : Int), .int .i64 ((L.s.num + 1 : Nat) : Int), .int .i64 L.s.gen, .int .i64 ((L.s.len + (splitL t).length : Nat) : Int), _, .bool false] _, row _ _ 1 (L.list ++ [t]).length (strs (L.list ++ [t]))] _
      rw [e5, app_strs, ← hbk]
      exact Own.sel (by assumption) [0, 1, 4] rfl
    · rw [finL_bad he2] at hR
      rw [if_neg he2] at oc9
      have o9 : Own B [I9, box kp (klogC rp L (.slice la L.list.length lc)) 98, ro (.slice pa (splitL t).length pc) (strs (splitL t)), row (.slice la L.list.length lc) 9 1 L.list.length (strs L.list)] h9 := oc9.back
      clear oc9 o8
      refine Br.ndec (fun c120 => ?_) (fun hc => absurd hc (by first | omega | assumption | decide | exact rfl))
      refine StillVC.run (StillVC.nilCheck rfl ?_)
      refine StillVC.run (StillVC.fieldAddr st98 rfl rfl rfl ?_)
      (refine RunVC.store o9 1 rfl ty3 rfl (by simp) (And.intro ⟨rfl, rfl⟩ ?_); intro m123 o123)
      refine StillVC.run (StillVC.nilCheck rfl ?_)
      refine StillVC.run (StillVC.fieldAddr st98 rfl rfl rfl ?_)
      (refine RunVC.store o123 1 rfl ty4 rfl (by simp) (And.intro ⟨rfl, rfl⟩ ?_); intro m126 o126)
      refine RetVC.one rfl ?_
      rw [← hR]
      exact ⟨rfl, I9, _, hI9, o126.sel [0, 1, 3] rfl⟩
  · rw [if_pos he1] at hR
    rw [finL_bad he1] at hR
    refine Br.dec (fun hc => absurd hc (by omega)) (fun c100 => ?_)
    refine Br.ndec (fun c101 => ?_) (fun hc => absurd hc (by first | omega | assumption | decide | exact rfl))
    refine StillVC.run (StillVC.nilCheck rfl ?_)
    refine StillVC.run (StillVC.fieldAddr st98 rfl rfl rfl ?_)
    (refine RunVC.store o8 1 rfl ty3 rfl (by simp) (And.intro ⟨rfl, rfl⟩ ?_); intro m104 o104)
    refine StillVC.run (StillVC.nilCheck rfl ?_)
    refine StillVC.run (StillVC.fieldAddr st98 rfl rfl rfl ?_)
    (refine RunVC.store o104 1 rfl ty4 rfl (by simp) (And.intro ⟨rfl, rfl⟩ ?_); intro m107 o107)
    refine RetVC.one rfl ?_
    rw [← hR]
    exact ⟨rfl, I7, _, hI7, o107.sel [0, 1, 3] rfl⟩

end Go.Proofs.YtfjajkgfgigodaaGreatDoor

/- The reference log: Rewrite. -/
namespace Go.Proofs.YtfjajkgfgigodaaGreatDoor
open Go

set_option maxHeartbeats 4000000 in
set_option maxRecDepth 100000 in
theorem kparts_spec (rs : List (List UInt8)) (v : Value) (h : Heap) (hA : Arr h v (strs rs)) (hps : (partsL rs).length ≤ 1000000) (hrl : ∀ r ∈ rs, r.length ≤ 1000000000) (hrs : rs.length ≤ 10000) :
    SpecR Tryz.prog 27 [v] h fun v h' => Own h [row v 9 1 (partsL rs).length (strs (partsL rs))] h' := by
  have o0 := (Own.refl h).nilRow 9 1
  simp only [List.nil_append] at o0
  have hsl : (strs rs).length = rs.length := by simp
  have hA' := hA
  obtain ⟨aa, cc, hv, hcc, hrr⟩ := hA
  rw [hsl] at hv
  subst hv
  clear hcc hrr
  refine Spec.enter Tryz.func27 rfl Tryz.ntmps27 (by kernel_rfl) ?_
  refine LoopVC.intro [3, 4, 5, 6, 7, 8, 9, 10, 11, 12, 13, 14, 15, 16, 17] [3, 4] (fun vs hh => ∃ (i : Nat) (pv : Value), i ≤ rs.length ∧ vs = [pv, .int .i64 i] ∧ Own h [row pv 9 1 (partsL (rs.take i)).length (strs (partsL (rs.take i)))] hh) (fun vs _ => match vs with | [_, .int _ i] => rs.length - i.toNat | _ => 0) ?_ ?_
  · exact ⟨0, _, by omega, rfl, o0⟩
  · clear o0
    rintro vs junk hh ⟨i, pv, hi, rfl, o⟩
    obtain ⟨pa, pc, rfl⟩ := o.rowIs 0 rfl
    have hpt := parts_take rs i
    have hA := hA'.ext o.ext
    by_cases hlt : i < rs.length
    · obtain ⟨x, hx⟩ := getx hlt
      have htk : rs.take (i + 1) = rs.take i ++ [x] := by rw [List.take_add_one, hx]; rfl
      have hpt1 := parts_take rs (i + 1)
      have hpe : partsL (rs.take (i + 1)) = partsL (rs.take i) ++ splitL x := by rw [htk, parts_append, parts_one]
      rw [hpe, List.length_append] at hpt1
      refine StillVC.run (StillVC.lenV rfl sl22 ?_)
      refine Br.dec (fun c61 => ?_) (fun hc => absurd (by omega) hc)
      refine StillVC.run (StillVC.idx sl22 ty9 hA rfl (by omega) (by omega) ?_)
      refine StillVC.run (StillVC.loadM hA ty9 rfl (by first | assumption | rfl) ?_)
      refine CallVC.ret (refSplit_spec x _ (by have := hrl x (List.mem_of_getElem? hx); omega)) ?_
      intro qv h3 oc
      obtain ⟨qa, qc, hqv, _⟩ := oc.roArr 0 rfl
      have hql : (strs (splitL x)).length = (splitL x).length := by simp
      rw [hql] at hqv
      subst hqv
      have o3 := Own.call o oc
      simp only [List.cons_append, List.nil_append] at o3
      clear o oc
      (refine RunVC.append o3 0 rfl sl22 ty9 (by decide) (o3.roArr 1 rfl).toN (by simp [Value.oneCell']) (by simp only [maxLen]; first | omega | (simp; omega)) (by first | omega | (simp; omega)) ?_; intro v80 m80 o80)
      refine Ar.i64 (by omega) (by omega) ?_
      refine ⟨rfl, ?_⟩
      refine ⟨⟨i + 1, v80, by omega, by simp, ?_⟩, by simp only; omega⟩
      rw [hpe, strs_append, List.length_append, ← hql]
      exact o80.sel [0] rfl
    · have hie : rs.take i = rs := List.take_of_length_le (by omega)
      rw [hie] at o ⊢
      clear hpt
      obtain rfl : i = rs.length := by omega
      refine StillVC.run (StillVC.lenV rfl sl22 ?_)
      refine Br.dec (fun hc => absurd hc (by omega)) (fun c101 => ?_)
      refine RetVC.one rfl ?_
      exact o

theorem rest_zero (frm k : Nat) : restS 2 frm k = [] := by
  unfold restS
  rfl

set_option maxHeartbeats 4000000 in
set_option maxRecDepth 100000 in
theorem kwipe_spec (B : Base) (kp rp : Nat) (d : Dk) (I : Item) (L : Lg) (lv : Value) (h : Heap) (hs : L.s.Fits) (h6 : 6 ≤ L.n) (h4 : L.n ≤ 4000) (hl : L.s.len ≤ halfN L.n) (hI : IsRf rp d I) (hq : d.q.length ≤ 1000)
    (o : Own B [I, box kp (klogC rp L lv) 98] h) :
    SpecR Tryz.prog 73 [.pointer (some ⟨kp, 0, none⟩)] h fun v h' =>
      ∃ r, r = runD [blanks (restS L.n (startN L.n L.s.gen) L.s.len), blanks (restS L.n (startN L.n L.s.gen) L.s.len), headW 0 L.s, headW 1 L.s] d ∧ v = .int .i64 r.1 ∧ ∃ I', IsRf rp r.2 I' ∧ Own B [I', box kp (klogC rp L lv) 98] h' := by
  generalize hR : runD [blanks (restS L.n (startN L.n L.s.gen) L.s.len), blanks (restS L.n (startN L.n L.s.gen) L.s.len), headW 0 L.s, headW 1 L.s] d = R
  have hst := start_le L.n L.s.gen h6
  have hf1 := hs.num
  have hf2 := hs.gen
  have hf3 := hs.len
  have hh : halfN L.n ≤ 2000 := by unfold halfN; omega
  refine Spec.enter Tryz.func73 rfl Tryz.ntmps73 (by kernel_rfl) ?_
  refine StillVC.run (StillVC.nilCheck rfl ?_)
  refine StillVC.run (StillVC.fieldAddr st98 rfl rfl rfl ?_)
  refine StillVC.run (StillVC.loadO o 1 rfl ty3 rfl rfl ?_)
  refine CallVC.ret (kstart_spec kp L.n L.s.gen _ (o.cellB 1 rfl 1) (by omega) h4 (by omega)) ?_
  rintro _ h1 ⟨rfl, oc⟩
  have o1 : Own B [I, box kp (klogC rp L lv) 98, row (.slice none 0 0) 3 1 0 []] h1 := Own.nilRow (o.ext' oc) 3 1
  clear o oc
  generalize hfr : startN L.n L.s.gen = frm at hR hst ⊢
  refine LoopVC.intro [3, 5, 16, 17, 18, 19, 20, 21, 22, 23, 24, 25, 26, 27, 28, 29, 30, 31, 32, 33, 34, 35, 36, 37, 38, 39, 40] [3, 5] (fun vs hh => ∃ (i : Nat) (v1 : Value), 2 ≤ i ∧ i ≤ L.n ∧ vs = [v1, .int .i64 i] ∧ Own B [I, box kp (klogC rp L lv) 98, row v1 3 1 (restS i frm L.s.len).length (natsV (restS i frm L.s.len))] hh) (fun vs _ => match vs with | [_, .int _ i] => L.n - i.toNat | _ => 0) ?_ ?_
  · exact ⟨2, _, by omega, by omega, rfl, by rw [rest_zero]; exact o1⟩
  · clear o1
    rintro vs junk hh ⟨i, v1, h2i, hi, rfl, o⟩
    obtain ⟨xa, xc, rfl⟩ := o.rowIs 2 rfl
    have hrl := rest_le i frm L.s.len
    have hnl : (natsV (restS i frm L.s.len)).length = (restS i frm L.s.len).length := by simp
    by_cases hlt : i < L.n
    · have hre := rest_step i frm L.s.len
      by_cases h1 : i < frm
      · rw [if_pos ⟨h2i, .inl h1⟩] at hre
        refine StillVC.run (StillVC.nilCheck rfl ?_)
        refine StillVC.run (StillVC.fieldAddr st98 rfl rfl rfl ?_)
        refine StillVC.run (StillVC.loadO o 1 rfl ty3 rfl rfl ?_)
        refine Br.dec (fun c63 => ?_) (fun hc => absurd (by omega) hc)
        refine Br.dec (fun c64 => ?_) (fun hc => absurd (by omega) hc)
        refine Br.tt ?_
        (refine RunVC.lit o sl84 ty3 rfl rfl (by decide) (And.intro rfl ?_); intro b65 m65 o65)
        (refine RunVC.append o65 2 rfl sl84 ty3 (by decide) (o65.boxArr 3 rfl (by simp) (by simp)).toN (by simp [Value.oneCell']) (by simp only [maxLen]; first | omega | (simp; omega)) (by first | omega | (simp; omega)) ?_; intro v66 m66 o66)
        refine Ar.i64 (by omega) (by omega) ?_
        refine ⟨rfl, ?_⟩
        refine ⟨⟨i + 1, v66, by omega, by omega, by simp, ?_⟩, by simp only; omega⟩
        rw [hre, nats_snoc, List.length_append]
        exact Own.sel (by assumption) [0, 1, 2] rfl
      · by_cases h2 : frm + L.s.len ≤ i
        · rw [if_pos ⟨h2i, .inr h2⟩] at hre
          refine StillVC.run (StillVC.nilCheck rfl ?_)
          refine StillVC.run (StillVC.fieldAddr st98 rfl rfl rfl ?_)
          refine StillVC.run (StillVC.loadO o 1 rfl ty3 rfl rfl ?_)
          refine Br.dec (fun c63 => ?_) (fun hc => absurd (by omega) hc)
          refine Br.dec (fun hc => absurd hc (by omega)) (fun c64 => ?_)
          refine StillVC.run (StillVC.nilCheck rfl ?_)
          refine StillVC.run (StillVC.fieldAddr st98 rfl rfl rfl ?_)
          refine StillVC.run (StillVC.loadO o 1 rfl ty3 rfl rfl ?_)
          refine Ar.i64 (by omega) (by omega) ?_
          refine Br.dec (fun c68 => ?_) (fun hc => absurd (by omega) hc)
          (refine RunVC.lit o sl84 ty3 rfl rfl (by decide) (And.intro rfl ?_); intro b69 m69 o69)
          (refine RunVC.append o69 2 rfl sl84 ty3 (by decide) (o69.boxArr 3 rfl (by simp) (by simp)).toN (by simp [Value.oneCell']) (by simp only [maxLen]; first | omega | (simp; omega)) (by first | omega | (simp; omega)) ?_; intro v70 m70 o70)
          refine Ar.i64 (by omega) (by omega) ?_
          refine ⟨rfl, ?_⟩
          refine ⟨⟨i + 1, v70, by omega, by omega, by simp, ?_⟩, by simp only; omega⟩
          rw [hre, nats_snoc, List.length_append]
          exact Own.sel (by assumption) [0, 1, 2] rfl
        · rw [if_neg (by omega), List.append_nil] at hre
          refine StillVC.run (StillVC.nilCheck rfl ?_)
          refine StillVC.run (StillVC.fieldAddr st98 rfl rfl rfl ?_)
          refine StillVC.run (StillVC.loadO o 1 rfl ty3 rfl rfl ?_)
          refine Br.dec (fun c63 => ?_) (fun hc => absurd (by omega) hc)
          refine Br.dec (fun hc => absurd hc (by omega)) (fun c64 => ?_)
          refine StillVC.run (StillVC.nilCheck rfl ?_)
          refine StillVC.run (StillVC.fieldAddr st98 rfl rfl rfl ?_)
          refine StillVC.run (StillVC.loadO o 1 rfl ty3 rfl rfl ?_)
          refine Ar.i64 (by omega) (by omega) ?_
          refine Br.dec (fun hc => absurd hc (by omega)) (fun c68 => ?_)
          refine Ar.i64 (by omega) (by omega) ?_
          refine ⟨rfl, ?_⟩
          exact ⟨⟨i + 1, .slice xa (restS i frm L.s.len).length xc, by omega, by omega, by simp, by rw [hre]; exact o⟩, by simp only; omega⟩
    · obtain rfl : i = L.n := by omega
      refine StillVC.run (StillVC.nilCheck rfl ?_)
      refine StillVC.run (StillVC.fieldAddr st98 rfl rfl rfl ?_)
      refine StillVC.run (StillVC.loadO o 1 rfl ty3 rfl rfl ?_)
      refine Br.dec (fun hc => absurd hc (by omega)) (fun c83 => ?_)
      refine LoopVC.intro [2, 6, 7, 41, 42, 43, 44, 45, 46, 47, 48, 49, 50, 51, 52, 53] [6] (fun vs hh => ∃ (i : Nat) (d1 : Dk) (I1 : Item), i ≤ 2 ∧ vs = [.int .i64 i] ∧ runD ([blanks (restS L.n frm L.s.len), blanks (restS L.n frm L.s.len), headW 0 L.s, headW 1 L.s].drop i) d1 = R ∧ d1.q.length ≤ 1000 ∧ IsRf rp d1 I1 ∧ Own B [I1, box kp (klogC rp L lv) 98, row (.slice xa (restS L.n frm L.s.len).length xc) 3 1 (restS L.n frm L.s.len).length (natsV (restS L.n frm L.s.len))] hh) (fun vs _ => match vs with | [.int _ i] => 2 - i.toNat | _ => 0) ?_ ?_
      · exact ⟨0, d, I, by omega, rfl, hR, hq, hI, o⟩
      · clear o hI
        rintro vs junk2 hh ⟨i, d1, I1, hi, rfl, hE, hq1, hI1, o⟩
        by_cases hlt : i < 2
        · have key : runD ([blanks (restS L.n frm L.s.len), blanks (restS L.n frm L.s.len), headW 0 L.s, headW 1 L.s].drop i) d1 = if (eachD (blanks (restS L.n frm L.s.len)) d1).1 ≠ 0 then eachD (blanks (restS L.n frm L.s.len)) d1 else runD ([blanks (restS L.n frm L.s.len), blanks (restS L.n frm L.s.len), headW 0 L.s, headW 1 L.s].drop (i + 1)) (eachD (blanks (restS L.n frm L.s.len)) d1).2 := by
            rcases (show i = 0 ∨ i = 1 by omega) with rfl | rfl <;> rfl
          rw [key] at hE
          have hrn := rest_le L.n frm L.s.len
          refine Br.dec (fun c100 => ?_) (fun hc => absurd (by omega) hc)
          refine StillVC.run (StillVC.lenV rfl sl84 ?_)
          refine CallVC.ret (kzeros_spec (restS L.n frm L.s.len).length _ (by omega)) ?_
          intro zv h2 oc
          have o2 : Own B [I1, box kp (klogC rp L lv) 98, row (.slice xa (restS L.n frm L.s.len).length xc) 3 1 (restS L.n frm L.s.len).length (natsV (restS L.n frm L.s.len)), row zv 9 1 (restS L.n frm L.s.len).length (strs (List.replicate (restS L.n frm L.s.len).length zS))] h2 := Own.call o oc
          have hZ : Reads (row zv 9 1 (restS L.n frm L.s.len).length (strs (List.replicate (restS L.n frm L.s.len).length zS))) 1 zv (List.replicate (restS L.n frm L.s.len).length zS).length (strs (List.replicate (restS L.n frm L.s.len).length zS)) := by rw [List.length_replicate]; exact row_reads
          refine CallVC.ret (kput_list B kp rp d1 I1 _ _ (klogC rp L lv) _ _ zv (restS L.n frm L.s.len) (List.replicate (restS L.n frm L.s.len).length zS) _ hI1 o2 List.mem_cons_self rfl (List.mem_cons_of_mem _ List.mem_cons_self) (List.mem_cons_of_mem _ (List.mem_cons_of_mem _ List.mem_cons_self)) row_reads hZ (by simp) (by omega) hq1 ?_) ?_
          · intro t ht'
            rw [(List.mem_replicate.1 ht').2]
            decide
          rw [zip_blanks']
          have hq2 := eachD_q (blanks (restS L.n frm L.s.len)) d1
          generalize eachD (blanks (restS L.n frm L.s.len)) d1 = r1 at hE hq2 ⊢
          obtain ⟨e, d2⟩ := r1
          simp only at hE hq2 ⊢
          rintro _ h3 ⟨rfl, I3, hI3, o3⟩
          clear o2 oc o
          by_cases he : e = 0
          · subst he
            have hq3 := hq2 rfl
            rw [if_neg (by simp)] at hE
            refine Br.ff ?_
            refine Ar.i64 (by omega) (by omega) ?_
            refine ⟨rfl, ?_⟩
            exact ⟨⟨i + 1, d2, I3, by omega, by simp, hE, by rw [hq3]; simp, hI3, o3.sel [0, 1, 2] rfl⟩, by simp only; omega⟩
          · rw [if_pos he] at hE
            refine Br.ndec (fun c140 => ?_) (fun hc => absurd hc (by first | omega | assumption | decide | exact rfl))
            refine RetVC.one rfl ?_
            exact ⟨_, hE, rfl, I3, hI3, o3.sel [0, 1] rfl⟩
        · obtain rfl : i = 2 := by omega
          have hE : runD [headW 0 L.s, headW 1 L.s] d1 = R := hE
          refine Br.ff ?_
          refine LoopVC.intro [2, 8, 9, 54, 55, 56, 57, 58, 59, 60, 61, 62, 63, 64, 65, 66, 67, 68, 69, 70, 71, 72, 73, 74, 75, 76, 77, 78, 79] [8] (fun vs hh => ∃ (i : Nat) (d2 : Dk) (I2 : Item), i ≤ 2 ∧ vs = [.int .i64 i] ∧ runD ([headW 0 L.s, headW 1 L.s].drop i) d2 = R ∧ d2.q.length ≤ 1000 ∧ IsRf rp d2 I2 ∧ Own B [I2, box kp (klogC rp L lv) 98] hh) (fun vs _ => match vs with | [.int _ i] => 2 - i.toNat | _ => 0) ?_ ?_
          · exact ⟨0, d1, I1, by omega, rfl, hE, hq1, hI1, o.sel [0, 1] rfl⟩
          · clear o hI1
            rintro vs junk3 hh ⟨i, d2, I2, hi, rfl, hE, hq2, hI2, o⟩
            by_cases hlt : i < 2
            · have key : runD ([headW 0 L.s, headW 1 L.s].drop i) d2 = if (eachD (headW i L.s) d2).1 ≠ 0 then eachD (headW i L.s) d2 else runD ([headW 0 L.s, headW 1 L.s].drop (i + 1)) (eachD (headW i L.s) d2).2 := by
                rcases (show i = 0 ∨ i = 1 by omega) with rfl | rfl <;> rfl
              rw [key] at hE
              refine Br.dec (fun c180 => ?_) (fun hc => absurd (by omega) hc)
              refine DrawVC.join [9, 55, 56, 57, 58, 59, 60, 61, 62, 63, 64, 65, 66, 67, 68, 69, 70, 71, 72, 73, 74, 75, 76, 77] [9] (fun vs h' => vs = [.int .i64 (eachD (headW i L.s) d2).1] ∧ ∃ I3, IsRf rp (eachD (headW i L.s) d2).2 I3 ∧ Own B [I3, box kp (klogC rp L lv) 98] h') ?_ ?_
              · skip
                refine DrawVC.introMT [0, 1, 3, 4, 5, 6, 8, 9, 10, 12, 13, 14, 19] [7, 11, 15] [18] (.one 0 (.one 1 (.one 3 (.one 4 (.one 5 (.one 6 (.one 7 (.one 8 (.one 9 (.one 10 (.one 11 (.one 12 (.one 13 (.one 14 (.one 15 (.fork 2 16 (.one 16 (.one 17 (.one 18 (.one 19 .done)))) (.fork 2 17 (.one 17 (.one 18 (.one 19 .done))) (.one 2 (.one 18 (.one 19 .done)))))))))))))))))))) mixed (by kernel_rfl) rfl (fun _ _ _ _ h => h) ?_
                refine StillVC.nilCheck rfl ?_
                refine StillVC.fieldAddr st98 rfl rfl rfl ?_
                refine StillVCA.loadC ty3 rfl ((o.cellB 1 rfl _).trans rfl) ?_
                refine StillVC.nilCheck rfl ?_
                refine StillVC.fieldAddr st98 rfl rfl rfl ?_
                refine StillVCA.loadC ty3 rfl ((o.cellB 1 rfl _).trans rfl) ?_
                refine StillVC.nilCheck rfl ?_
                refine StillVC.fieldAddr st98 rfl rfl rfl ?_
                refine StillVCA.loadC ty3 rfl ((o.cellB 1 rfl _).trans rfl) ?_
                have hO := And.intro trivial o
                clear o
                refine And.intro ?_ ?_
                · have or1 := Own.refl hh
                  (refine RunVC.lit (Own.refl _) sl84 ty3 rfl rfl (by decide) (And.intro rfl ?_); intro b200 m200 o200)
                  refine And.intro (.inr ⟨Ext.refl _, o200.ext⟩) ?_
                  refine CallVC.ret (kheads_spec L.s i _ hs (by omega)) ?_
                  rintro _ h4 ⟨rfl, oc⟩
                  have oz := oc.thenE (by assumption : Own ⟨hh, []⟩ _ _)
                  clear oc or1
                  refine And.intro (.inr ⟨o200.ext, oz.ext⟩) ?_
                  (refine RunVC.lit oz sl22 ty9 rfl rfl (by decide) (And.intro rfl ?_); intro b220 m220 o220)
                  refine And.intro (.inr ⟨oz.ext, o220.ext⟩) ?_
                  have oP : Own B (I2 :: [box kp (klogC rp L lv) 98, box b200 [.int .i64 (i : Int)] 3, box b220 [.string ⟨⟨headL i L.s⟩⟩] 9]) _ := Own.call hO.2 (by assumption : Own ⟨hh, []⟩ _ _)
                  refine CallVC.ret (kput_list B kp rp d2 I2 _ _ (klogC rp L lv) _ (.slice (some ⟨b200, 0, none⟩) 1 1) (.slice (some ⟨b220, 0, none⟩) 1 1) [i] [headL i L.s] _ hI2 oP List.mem_cons_self rfl (List.mem_cons_of_mem _ List.mem_cons_self) (List.mem_cons_of_mem _ (List.mem_cons_of_mem _ List.mem_cons_self)) (box_reads rfl (by decide)) (box_reads rfl (by decide)) rfl (by simp) hq2 (by simp [headL_len])) ?_
                  rintro _ h5 ⟨rfl, I3, hI3, o3⟩
                  refine ⟨rfl, ?_⟩
                  exact ⟨rfl, I3, hI3, o3.sel [0, 1] rfl⟩
                · refine CallVC.ret (kheads_spec L.s i _ hs (by omega)) ?_
                  rintro _ h4 ⟨rfl, oc⟩
                  refine And.intro (.inr ⟨Ext.refl _, oc.ext⟩) ?_
                  refine And.intro ?_ ?_
                  · (refine RunVC.lit oc sl84 ty3 rfl rfl (by decide) (And.intro rfl ?_); intro b270 m270 o270)
                    refine And.intro (.inr ⟨oc.ext, o270.ext⟩) ?_
                    (refine RunVC.lit o270 sl22 ty9 rfl rfl (by decide) (And.intro rfl ?_); intro b271 m271 o271)
                    refine And.intro (.inr ⟨o270.ext, o271.ext⟩) ?_
                    have oP : Own B (I2 :: [box kp (klogC rp L lv) 98, box b270 [.int .i64 (i : Int)] 3, box b271 [.string ⟨⟨headL i L.s⟩⟩] 9]) _ := Own.call hO.2 (by assumption : Own ⟨hh, []⟩ _ _)
                    refine CallVC.ret (kput_list B kp rp d2 I2 _ _ (klogC rp L lv) _ (.slice (some ⟨b270, 0, none⟩) 1 1) (.slice (some ⟨b271, 0, none⟩) 1 1) [i] [headL i L.s] _ hI2 oP List.mem_cons_self rfl (List.mem_cons_of_mem _ List.mem_cons_self) (List.mem_cons_of_mem _ (List.mem_cons_of_mem _ List.mem_cons_self)) (box_reads rfl (by decide)) (box_reads rfl (by decide)) rfl (by simp) hq2 (by simp [headL_len])) ?_
                    rintro _ h5 ⟨rfl, I3, hI3, o3⟩
                    refine ⟨rfl, ?_⟩
                    exact ⟨rfl, I3, hI3, o3.sel [0, 1] rfl⟩
                  · (refine RunVC.lit oc sl22 ty9 rfl rfl (by decide) (And.intro rfl ?_); intro b290 m290 o290)
                    refine And.intro (.inr ⟨oc.ext, o290.ext⟩) ?_
                    (refine RunVC.lit o290 sl84 ty3 rfl rfl (by decide) (And.intro rfl ?_); intro b291 m291 o291)
                    refine And.intro (.inr ⟨o290.ext, o291.ext⟩) ?_
                    have oP : Own B (I2 :: [box kp (klogC rp L lv) 98, box b290 [.string ⟨⟨headL i L.s⟩⟩] 9, box b291 [.int .i64 (i : Int)] 3]) _ := Own.call hO.2 (by assumption : Own ⟨hh, []⟩ _ _)
                    refine CallVC.ret (kput_list B kp rp d2 I2 _ _ (klogC rp L lv) _ (.slice (some ⟨b291, 0, none⟩) 1 1) (.slice (some ⟨b290, 0, none⟩) 1 1) [i] [headL i L.s] _ hI2 oP List.mem_cons_self rfl (List.mem_cons_of_mem _ (List.mem_cons_of_mem _ List.mem_cons_self)) (List.mem_cons_of_mem _ List.mem_cons_self) (box_reads rfl (by decide)) (box_reads rfl (by decide)) rfl (by simp) hq2 (by simp [headL_len])) ?_
                    rintro _ h5 ⟨rfl, I3, hI3, o3⟩
                    refine ⟨rfl, ?_⟩
                    exact ⟨rfl, I3, hI3, o3.sel [0, 1] rfl⟩
              · rintro vs junk4 h5 ⟨rfl, I3, hI3, o3⟩
                have hq3 := eachD_q (headW i L.s) d2
                generalize eachD (headW i L.s) d2 = r1 at hE hq3 hI3 ⊢
                obtain ⟨e, d3⟩ := r1
                simp only at hE hq3 hI3 ⊢
                clear o
                by_cases he : e = 0
                · subst he
                  have hq4 := hq3 rfl
                  rw [if_neg (by simp)] at hE
                  refine Br.ff ?_
                  refine Ar.i64 (by omega) (by omega) ?_
                  refine ⟨rfl, ?_⟩
                  exact ⟨⟨i + 1, d3, I3, by omega, by simp, hE, by rw [hq4]; simp, hI3, o3⟩, by simp only; omega⟩
                · rw [if_pos he] at hE
                  refine Br.ndec (fun c320 => ?_) (fun hc => absurd hc (by first | omega | assumption | decide | exact rfl))
                  refine RetVC.one rfl ?_
                  exact ⟨_, hE, rfl, I3, hI3, o3⟩
            · obtain rfl : i = 2 := by omega
              have hE : (0, d2) = R := hE
              refine Br.ff ?_
              refine RetVC.one rfl ?_
              exact ⟨_, hE, rfl, I2, hI2, o⟩

end Go.Proofs.YtfjajkgfgigodaaGreatDoor

/- The reference log: Rewrite. -/
namespace Go.Proofs.YtfjajkgfgigodaaGreatDoor
open Go

set_option maxHeartbeats 8000000 in
set_option maxRecDepth 100000 in
theorem krewrite_spec (B : Base) (kp rp : Nat) (d : Dk) (I KR : Item) (L : Lg) (lv rv : Value) (rs : List (List UInt8)) (h : Heap) (hI : IsRf rp d I) (hq : d.q.length ≤ 1000) (hL : LOK L) (hrs : rs.length ≤ 10000) (hps : (partsL rs).length ≤ 1000000) (hrl : ∀ r ∈ rs, r.length ≤ 1000000000)
    (hR : RD B.h KR rv rs) (o : Own B ((I :: KLogI kp rp L lv) ++ [KR]) h) :
    SpecR Tryz.prog 35 [.pointer (some ⟨kp, 0, none⟩), rv] h fun v h' => v = .int .i64 (rewL L d rs).1 ∧ ∃ I' lv', IsRf rp (rewL L d rs).2.2 I' ∧ Own B ((I' :: KLogI kp rp (rewL L d rs).2.1 lv') ++ [KR]) h' := by
  unfold KLogI at o ⊢
  simp only [List.cons_append, List.nil_append] at o ⊢
  obtain ⟨la, lc, rfl⟩ := o.rowIs 2 rfl
  obtain ⟨ra, rc, hrv, _⟩ := hR B h rfl (o.sel [3] rfl)
  have hsl : (strs rs).length = rs.length := by simp
  rw [hsl] at hrv
  subst hrv
  have hf1 := hL.fits.num
  have hf2 := hL.fits.gen
  have hf3 := hL.fits.len
  have h6 := hL.n6
  have h4 := hL.n4
  have hll := hL.list
  have hhf := hL.half
  have hst := start_le L.n (L.s.gen + 1) h6
  have hh : halfN L.n ≤ 2000 := by unfold halfN; omega
  generalize hRR : rewL L d rs = R
  rw [show rewL L d rs = if L.broken = true then (12, L, d) else if (rs.any fun r => decide (2000 < r.length)) = true then (3, L, d) else if L.s.gen = 999999 then (18, L, d) else if halfN L.n < (partsL rs).length ∨ L.s.num = 999999999 then (18, L, d) else finL L ⟨rewS L rs, L.n, 0, rs, false⟩ (runD (rewB L rs) d) from rfl] at hRR
  refine Spec.enter Tryz.func35 rfl Tryz.ntmps35 (by kernel_rfl) ?_
  by_cases hbk : L.broken = true
  · rw [if_pos hbk] at hRR
    have o1 : Own B [I, box kp [.pointer (some ⟨rp, 0, none⟩), .int .i64 L.n, .int .i64 L.at_, .int .i64 L.s.num, .int .i64 L.s.gen, .int .i64 L.s.len, .slice la L.list.length lc, .bool true] 98, row (.slice la L.list.length lc) 9 1 L.list.length (strs L.list), KR] h := by rw [← hbk]; exact o
    have hO := And.intro trivial o
    clear o
    refine RunVC.eqP (by kernel_rfl) rfl rfl ?_
    refine Br.ff ?_
    refine StillVC.run (StillVC.nilCheck rfl ?_)
    refine StillVC.run (StillVC.fieldAddr st98 rfl rfl rfl ?_)
    refine StillVC.run (StillVC.loadO o1 1 rfl ty4 rfl rfl ?_)
    refine Br.tt ?_
    refine RetVC.one rfl ?_
    rw [← hRR]
    exact ⟨rfl, I, _, hI, hO.2⟩
  rw [if_neg hbk] at hRR
  have hbk : L.broken = false := by simpa using hbk
  have o1 : Own B [I, box kp [.pointer (some ⟨rp, 0, none⟩), .int .i64 L.n, .int .i64 L.at_, .int .i64 L.s.num, .int .i64 L.s.gen, .int .i64 L.s.len, .slice la L.list.length lc, .bool false] 98, row (.slice la L.list.length lc) 9 1 L.list.length (strs L.list), KR] h := by rw [← hbk]; exact o
  clear o
  refine RunVC.eqP (by kernel_rfl) rfl rfl ?_
  refine Br.ff ?_
  refine StillVC.run (StillVC.nilCheck rfl ?_)
  refine StillVC.run (StillVC.fieldAddr st98 rfl rfl rfl ?_)
  refine StillVC.run (StillVC.loadO o1 1 rfl ty4 rfl rfl ?_)
  refine Br.ff ?_
  refine LoopVC.intro [4, 5, 15, 16, 17, 18, 19, 20, 21, 22, 23, 24, 25, 26] [5] (fun vs hh => ∃ (i : Nat), i ≤ rs.length ∧ vs = [.int .i64 i] ∧ (∀ r ∈ rs.take i, r.length ≤ 2000) ∧ Own B [I, box kp [.pointer (some ⟨rp, 0, none⟩), .int .i64 L.n, .int .i64 L.at_, .int .i64 L.s.num, .int .i64 L.s.gen, .int .i64 L.s.len, .slice la L.list.length lc, .bool false] 98, row (.slice la L.list.length lc) 9 1 L.list.length (strs L.list), KR] hh) (fun vs _ => match vs with | [.int _ i] => rs.length - i.toNat | _ => 0) ?_ ?_
  · exact ⟨0, by omega, rfl, by simp, o1⟩
  · clear o1
    rintro vs junk hh ⟨i, hi, rfl, hsh, o⟩
    have hA := hR B hh rfl (o.sel [3] rfl)
    by_cases hlt : i < rs.length
    · obtain ⟨x, hx⟩ := getx hlt
      have htk : rs.take (i + 1) = rs.take i ++ [x] := by rw [List.take_add_one, hx]; rfl
      have hxl := hrl x (List.mem_of_getElem? hx)
      by_cases hlong : 2000 < x.length
      · rw [if_pos (List.any_eq_true.2 ⟨x, List.mem_of_getElem? hx, by simpa using hlong⟩)] at hRR
        refine StillVC.run (StillVC.lenV rfl sl22 ?_)
        refine Br.dec (fun c41 => ?_) (fun hc => absurd (by omega) hc)
        refine StillVC.run (StillVC.idx sl22 ty9 hA rfl (by omega) (by omega) ?_)
        refine StillVC.run (StillVC.loadM hA ty9 rfl (by first | assumption | rfl) ?_)
        refine StillVC.run (StillVC.lenS rfl str9 ?_)
        refine Br.dec (fun c45 => ?_) (fun hc => absurd (by omega) hc)
        refine RetVC.one rfl ?_
        rw [← hRR]
        refine ⟨rfl, I, .slice la L.list.length lc, hI, ?_⟩
        show Own B [I, box kp [_, _, _, _, _, _, _, .bool L.broken] _, _, _] _
        rw [hbk]
        exact o
      · refine StillVC.run (StillVC.lenV rfl sl22 ?_)
        refine Br.dec (fun c41 => ?_) (fun hc => absurd (by omega) hc)
        refine StillVC.run (StillVC.idx sl22 ty9 hA rfl (by omega) (by omega) ?_)
        refine StillVC.run (StillVC.loadM hA ty9 rfl (by first | assumption | rfl) ?_)
        refine StillVC.run (StillVC.lenS rfl str9 ?_)
        refine Br.dec (fun hc => absurd hc (by omega)) (fun c45 => ?_)
        refine Ar.i64 (by omega) (by omega) ?_
        refine ⟨rfl, ?_⟩
        refine ⟨⟨i + 1, by omega, by simp, ?_, o⟩, by simp only; omega⟩
        rw [htk]
        intro r hr
        rcases List.mem_append.1 hr with hr | hr
        · exact hsh r hr
        · rw [List.mem_singleton.1 hr]; omega
    · obtain rfl : i = rs.length := by omega
      rw [List.take_length] at hsh
      rw [if_neg (by rw [List.any_eq_true]; rintro ⟨r, hr, h2⟩; have := hsh r hr; simp at h2; omega)] at hRR
      refine StillVC.run (StillVC.lenV rfl sl22 ?_)
      refine Br.dec (fun hc => absurd hc (by omega)) (fun c61 => ?_)
      refine CallVC.ret (kparts_spec rs _ _ hA hps hrl hrs) ?_
      intro pv h3 oc
      have o3 : Own B [I, box kp [.pointer (some ⟨rp, 0, none⟩), .int .i64 L.n, .int .i64 L.at_, .int .i64 L.s.num, .int .i64 L.s.gen, .int .i64 L.s.len, .slice la L.list.length lc, .bool false] 98, row (.slice la L.list.length lc) 9 1 L.list.length (strs L.list), KR, row pv 9 1 (partsL rs).length (strs (partsL rs))] h3 := Own.call o oc
      obtain ⟨pa, pc, rfl⟩ := o3.rowIs 4 rfl
      clear oc o hA
      refine StillVC.run (StillVC.lenV rfl sl22 ?_)
      refine StillVC.run (StillVC.nilCheck rfl ?_)
      refine StillVC.run (StillVC.fieldAddr st98 rfl rfl rfl ?_)
      refine StillVC.run (StillVC.loadO o3 1 rfl ty3 rfl rfl ?_)
      refine CallVC.ret (khalf_spec L.n _ (by omega) h4) ?_
      rintro _ h5 ⟨rfl, oc⟩
      have o5 := o3.ext' oc
      clear o3 oc
      by_cases hfull : (halfN L.n < (partsL rs).length ∨ L.s.num = 999999999) ∨ L.s.gen = 999999
      · have hRR2 : (18, L, d) = R := by
          by_cases hg : L.s.gen = 999999
          · rw [if_pos hg] at hRR; exact hRR
          · rw [if_neg hg, if_pos (by omega)] at hRR; exact hRR
        have ob : Own B [I, box kp (klogC rp L (.slice la L.list.length lc)) 98, row (.slice la L.list.length lc) 9 1 L.list.length (strs L.list), KR] h5 := by
          show Own B [I, box kp [_, _, _, _, _, _, _, .bool L.broken] _, _, _] _
          rw [hbk]
          exact o5.sel [0, 1, 2, 3] rfl
        have hO := And.intro trivial ob
        clear ob
        by_cases hf1 : halfN L.n < (partsL rs).length
        · refine Br.dec (fun c100 => ?_) (fun hc => absurd (by omega) hc)
          refine Br.tt ?_
          refine RetVC.one rfl ?_
          rw [← hRR2]
          exact ⟨rfl, I, _, hI, hO.2⟩
        · by_cases hf2 : L.s.num = 999999999
          · refine Br.dec (fun hc => absurd hc (by omega)) (fun c100 => ?_)
            refine StillVC.run (StillVC.nilCheck rfl ?_)
            refine StillVC.run (StillVC.fieldAddr st98 rfl rfl rfl ?_)
            refine StillVC.run (StillVC.loadO o5 1 rfl ty3 rfl rfl ?_)
            refine Br.dec (fun c104 => ?_) (fun hc => absurd (by omega) hc)
            refine Br.tt ?_
            refine RetVC.one rfl ?_
            rw [← hRR2]
            exact ⟨rfl, I, _, hI, hO.2⟩
          · have hf3 : L.s.gen = 999999 := by omega
            refine Br.dec (fun hc => absurd hc (by omega)) (fun c100 => ?_)
            refine StillVC.run (StillVC.nilCheck rfl ?_)
            refine StillVC.run (StillVC.fieldAddr st98 rfl rfl rfl ?_)
            refine StillVC.run (StillVC.loadO o5 1 rfl ty3 rfl rfl ?_)
            refine Br.dec (fun hc => absurd hc (by omega)) (fun c104 => ?_)
            refine StillVC.run (StillVC.nilCheck rfl ?_)
            refine StillVC.run (StillVC.fieldAddr st98 rfl rfl rfl ?_)
            refine StillVC.run (StillVC.loadO o5 1 rfl ty3 rfl rfl ?_)
            refine Br.dec (fun c108 => ?_) (fun hc => absurd (by omega) hc)
            refine RetVC.one rfl ?_
            rw [← hRR2]
            exact ⟨rfl, I, _, hI, hO.2⟩
      have hnf : ¬ (halfN L.n < (partsL rs).length ∨ L.s.num = 999999999) := fun hx => hfull (.inl hx)
      have hng : ¬ L.s.gen = 999999 := fun hx => hfull (.inr hx)
      rw [if_neg hng, if_neg hnf] at hRR
      refine Br.dec (fun hc => absurd hc (by omega)) (fun c100 => ?_)
      refine StillVC.run (StillVC.nilCheck rfl ?_)
      refine StillVC.run (StillVC.fieldAddr st98 rfl rfl rfl ?_)
      refine StillVC.run (StillVC.loadO o5 1 rfl ty3 rfl rfl ?_)
      refine Br.dec (fun hc => absurd hc (by omega)) (fun c104 => ?_)
      refine StillVC.run (StillVC.nilCheck rfl ?_)
      refine StillVC.run (StillVC.fieldAddr st98 rfl rfl rfl ?_)
      refine StillVC.run (StillVC.loadO o5 1 rfl ty3 rfl rfl ?_)
      refine Br.dec (fun hc => absurd hc (by omega)) (fun c108 => ?_)
      refine StillVC.run (StillVC.nilCheck rfl ?_)
      refine StillVC.run (StillVC.loadON o5 1 rfl ty98 rfl rfl rfl ?_)
      (refine RunVC.alloc o5 ty98 ?_; intro b111 m111 o111)
      (refine RunVC.storeL o111 5 rfl ty98 rfl (by decide) (And.intro ⟨rfl, rfl⟩ ?_); intro m112 o112)
      refine DrawVC.intro [0, 1, 2, 3, 4, 6, 8, 9, 10, 12, 13, 15] [5, 11] [14] [0, 1, 2, 3, 4, 5, 6, 8, 9, 10, 11, 12, 13, 7, 14, 15] mixed (by kernel_rfl) rfl (fun _ _ _ _ h => h) ?_
      refine StillVC.nilCheck rfl ?_
      refine StillVC.fieldAddr st98 rfl rfl rfl ?_
      refine StillVC.loadO o112 1 rfl ty3 rfl rfl ?_
      refine Ar.i64 (by omega) (by omega) ?_
      refine StillVC.nilCheck rfl ?_
      refine StillVC.fieldAddr st98 rfl rfl rfl ?_
      refine StillVC.loadO o112 1 rfl ty3 rfl rfl ?_
      refine Ar.i64 (by omega) (by omega) ?_
      have eg : (L.s.gen : Int) + 1 = ((L.s.gen + 1 : Nat) : Int) := by omega
      rw [eg]
      refine CallVC.ret (kstart_spec kp L.n (L.s.gen + 1) _ (Own.cellB (by assumption) 1 rfl 1) (by omega) h4 (by omega)) ?_
      rintro _ h6 ⟨rfl, oc⟩
      have hrd : runD (rewB L rs) d = if (runD [blanks (List.range' (startN L.n (L.s.gen + 1)) (partsL rs).length), datas (L.s.gen + 1) (startN L.n (L.s.gen + 1)) (partsL rs)] d).1 ≠ 0 then runD [blanks (List.range' (startN L.n (L.s.gen + 1)) (partsL rs).length), datas (L.s.gen + 1) (startN L.n (L.s.gen + 1)) (partsL rs)] d else runD ([headW (1 - L.at_) (rewS L rs), headW L.at_ (rewS L rs)] ++ [blanks (restS L.n (startN L.n (L.s.gen + 1)) (partsL rs).length), blanks (restS L.n (startN L.n (L.s.gen + 1)) (partsL rs).length), headW 0 (rewS L rs), headW 1 (rewS L rs)]) (runD [blanks (List.range' (startN L.n (L.s.gen + 1)) (partsL rs).length), datas (L.s.gen + 1) (startN L.n (L.s.gen + 1)) (partsL rs)] d).2 := by
        rw [show rewB L rs = [blanks (List.range' (startN L.n (L.s.gen + 1)) (partsL rs).length), datas (L.s.gen + 1) (startN L.n (L.s.gen + 1)) (partsL rs)] ++ ([headW (1 - L.at_) (rewS L rs), headW L.at_ (rewS L rs)] ++ [blanks (restS L.n (startN L.n (L.s.gen + 1)) (partsL rs).length), blanks (restS L.n (startN L.n (L.s.gen + 1)) (partsL rs).length), headW 0 (rewS L rs), headW 1 (rewS L rs)]) from rfl, runD_append]
      rw [hrd] at hRR
      clear hrd o5
      obtain ⟨Lf, hLf⟩ : ∃ Lf : Lg, Lf = { L with broken := false } := ⟨_, rfl⟩
      have hfit : (Lf.with (L.s.gen + 1) (partsL rs).length).s.Fits := by
        subst hLf
        exact ⟨by show L.s.num + 1 < _; omega, by show L.s.gen + 1 < _; omega, by show (partsL rs).length < _; omega⟩
      have hat : Lf.at_ < 2 := by subst hLf; exact hL.at2
      have hsw : (Lf.with (L.s.gen + 1) (partsL rs).length).s = rewS L rs := by subst hLf; rfl
      have hae : Lf.at_ = L.at_ := by subst hLf; rfl
      have hne : Lf.n = L.n := by subst hLf; rfl
      (refine And.intro oc.ext ?_; have o120 := Own.call o112 oc; simp only [List.cons_append, List.nil_append] at o120; clear oc)
      have o6 : Own B [I, box kp (klogC rp Lf (.slice la L.list.length lc)) 98, row (.slice pa (partsL rs).length pc) 9 1 (partsL rs).length (strs (partsL rs)), row (.slice la L.list.length lc) 9 1 L.list.length (strs L.list), KR, box b111 (klogC rp Lf (.slice la L.list.length lc)) 98] h6 := by
        subst hLf
        exact o120.sel [0, 1, 4, 2, 3, 5] rfl
      clear o120
      refine CallVC.ret (kwrite_spec _ kp rp (L.s.gen + 1) (startN L.n (L.s.gen + 1)) d I _ Lf _ _ (partsL rs) _ (by omega) (by omega) (fun i b hb => parts_len rs hb) row_reads hI hq (o6.lend [0, 1, 2] [3, 4, 5] rfl)) ?_
      have hq1 := runD_q' (b := blanks (List.range' (startN L.n (L.s.gen + 1)) (partsL rs).length)) (x := [datas (L.s.gen + 1) (startN L.n (L.s.gen + 1)) (partsL rs)]) (d := d)
      generalize runD [blanks (List.range' (startN L.n (L.s.gen + 1)) (partsL rs).length), datas (L.s.gen + 1) (startN L.n (L.s.gen + 1)) (partsL rs)] d = r1 at hRR hq1 ⊢
      obtain ⟨e1, d1⟩ := r1
      simp only at hRR hq1 ⊢
      rintro _ h7 ⟨rfl, I7, hI7, oc7⟩
      have o7 : Own B [I7, box kp (klogC rp Lf (.slice la L.list.length lc)) 98, row (.slice pa (partsL rs).length pc) 9 1 (partsL rs).length (strs (partsL rs)), row (.slice la L.list.length lc) 9 1 L.list.length (strs L.list), KR, box b111 (klogC rp Lf (.slice la L.list.length lc)) 98] h7 := oc7.back
      clear oc7 o6
      by_cases he1 : e1 = 0
      · subst he1
        rw [if_neg (by simp), runD_append] at hRR
        have hq2 := hq1 rfl
        have o7' : Own B [I7, box kp [.pointer (some ⟨rp, 0, none⟩), .int .i64 L.n, .int .i64 L.at_, .int .i64 L.s.num, .int .i64 L.s.gen, .int .i64 L.s.len, .slice la L.list.length lc, .bool false] 98, row (.slice pa (partsL rs).length pc) 9 1 (partsL rs).length (strs (partsL rs)), row (.slice la L.list.length lc) 9 1 L.list.length (strs L.list), KR, box b111 (klogC rp Lf (.slice la L.list.length lc)) 98] h7 := by
          subst hLf
          exact o7
        have hO := And.intro trivial o7
        clear o7
        refine Br.tt ?_
        refine StillVC.run (StillVC.nilCheck rfl ?_)
        refine StillVC.run (StillVC.fieldAddr st98 rfl rfl rfl ?_)
        refine StillVC.run (StillVC.loadO o7' 1 rfl ty3 rfl rfl ?_)
        refine Ar.i64 (by omega) (by omega) ?_
        refine StillVC.run (StillVC.lenV rfl sl22 ?_)
        rw [eg]
        refine CallVC.ret (kcommit_spec _ kp rp (L.s.gen + 1) (partsL rs).length d1 I7 Lf _ _ hfit hat hI7 (by rw [hq2]; simp) (hO.2.lend [0, 1] [2, 3, 4, 5] rfl)) ?_
        rintro _ h9 ⟨r, hr, rfl, I9, hI9, oc9⟩
        rw [hsw, hae] at hr
        rw [← hr] at hRR
        have hq3 := runD_q' (b := headW (1 - L.at_) (rewS L rs)) (x := [headW L.at_ (rewS L rs)]) (d := d1)
        rw [← hr] at hq3
        clear hr
        obtain ⟨e2, d2⟩ := r
        simp only at hRR hI9 oc9 hq3 ⊢
        clear o7' hO
        by_cases he2 : e2 = 0
        · subst he2
          rw [if_neg (by simp)] at hRR
          have hq4 := hq3 rfl
          rw [if_pos rfl] at oc9
          have o9 : Own B [I9, box kp (klogC rp { Lf.with (L.s.gen + 1) (partsL rs).length with at_ := 0 } (.slice la L.list.length lc)) 98, row (.slice pa (partsL rs).length pc) 9 1 (partsL rs).length (strs (partsL rs)), row (.slice la L.list.length lc) 9 1 L.list.length (strs L.list), KR, box b111 (klogC rp Lf (.slice la L.list.length lc)) 98] h9 := oc9.back
          clear oc9
          refine Br.tt ?_
          refine CallVC.ret (kwipe_spec _ kp rp d2 I9 { Lf.with (L.s.gen + 1) (partsL rs).length with at_ := 0 } _ _ hfit (by show 6 ≤ Lf.n; omega) (by show Lf.n ≤ 4000; omega) (by show (partsL rs).length ≤ halfN Lf.n; rw [hne]; omega) hI9 (by rw [hq4]; simp) (o9.lend [0, 1] [2, 3, 4, 5] rfl)) ?_
          rintro _ h10 ⟨r, hr, rfl, I10, hI10, oc10⟩
          have hr2 : r = runD [blanks (restS L.n (startN L.n (L.s.gen + 1)) (partsL rs).length), blanks (restS L.n (startN L.n (L.s.gen + 1)) (partsL rs).length), headW 0 (rewS L rs), headW 1 (rewS L rs)] d2 := by
            rw [hr]
            subst hLf
            rfl
          rw [← hr2] at hRR
          clear hr hr2
          obtain ⟨e3, d3⟩ := r
          simp only at hRR hI10 ⊢
          have o10 : Own B [I10, box kp (klogC rp { Lf.with (L.s.gen + 1) (partsL rs).length with at_ := 0 } (.slice la L.list.length lc)) 98, row (.slice pa (partsL rs).length pc) 9 1 (partsL rs).length (strs (partsL rs)), row (.slice la L.list.length lc) 9 1 L.list.length (strs L.list), KR, box b111 (klogC rp Lf (.slice la L.list.length lc)) 98] h10 := oc10.back
          clear oc10 o9
          by_cases he3 : e3 = 0
          · subst he3
            rw [finL_ok] at hRR
            refine Br.ff ?_
            (refine RunVC.lit o10 sl22 ty9 rfl rfl (by decide) (And.intro rfl ?_); intro b180 m180 o180)
            have oR := Own.boxRow o180 6 rfl 1 0 0 rfl (Nat.le_refl _) (by decide)
            simp only [List.set_cons_succ, List.set_cons_zero] at oR
            have hA2 := hR B m180 rfl (o180.sel [4] rfl)
            clear o180
            (refine RunVC.append oR 6 rfl sl22 ty9 (by decide) hA2.toN (by simp [Value.oneCell']) (by simp only [maxLen]; first | omega | (simp; omega)) (by first | omega | (simp; omega)) ?_; intro v200 m200 o200)
            refine StillVC.run (StillVC.nilCheck rfl ?_)
            refine StillVC.run (StillVC.fieldAddr st98 rfl rfl rfl ?_)
            have e7 : 0 + (strs rs).length = rs.length := by simp
            rw [e7] at o200
            obtain ⟨va, vc, rfl⟩ := o200.rowIs 6 rfl
            (refine RunVC.store o200 1 rfl ty22 rfl (by simp) (And.intro ⟨rfl, rfl⟩ ?_); intro m210 o210)
            refine RetVC.one rfl ?_
            rw [← hRR]
            refine ⟨rfl, I10, .slice va rs.length vc, hI10, ?_⟩
            subst hLf
            show Own B [I10, box kp [_, _, _, _, _, _, _, .bool false] _, _, _] _
            exact Own.sel (by assumption) [0, 1, 6, 4] rfl
          · rw [finL_bad he3] at hRR
            refine Br.ndec (fun c180 => ?_) (fun hc => absurd hc (by first | omega | assumption | decide | exact rfl))
            refine StillVC.run (StillVC.loadON o10 5 rfl ty98 rfl rfl rfl ?_)
            refine StillVC.run (StillVC.nilCheck rfl ?_)
            (refine RunVC.store o10 1 rfl ty98 rfl (by simp) (And.intro ⟨rfl, rfl⟩ ?_); intro m183 o183)
            refine StillVC.run (StillVC.nilCheck rfl ?_)
            refine StillVC.run (StillVC.fieldAddr st98 rfl rfl rfl ?_)
            (refine RunVC.store o183 1 rfl ty4 rfl (by simp) (And.intro ⟨rfl, rfl⟩ ?_); intro m186 o186)
            refine RetVC.one rfl ?_
            rw [← hRR]
            subst hLf
            exact ⟨rfl, I10, .slice la L.list.length lc, hI10, o186.sel [0, 1, 3, 4] rfl⟩
        · rw [if_pos he2, finL_bad he2] at hRR
          rw [if_neg he2] at oc9
          have o9 : Own B [I9, box kp (klogC rp Lf (.slice la L.list.length lc)) 98, row (.slice pa (partsL rs).length pc) 9 1 (partsL rs).length (strs (partsL rs)), row (.slice la L.list.length lc) 9 1 L.list.length (strs L.list), KR, box b111 (klogC rp Lf (.slice la L.list.length lc)) 98] h9 := oc9.back
          clear oc9
          refine Br.dec (fun hc => absurd hc (by omega)) (fun c160 => ?_)
          refine Br.ndec (fun c161 => ?_) (fun hc => absurd hc (by first | omega | assumption | decide | exact rfl))
          refine StillVC.run (StillVC.loadON o9 5 rfl ty98 rfl rfl rfl ?_)
          refine StillVC.run (StillVC.nilCheck rfl ?_)
          (refine RunVC.store o9 1 rfl ty98 rfl (by simp) (And.intro ⟨rfl, rfl⟩ ?_); intro m164 o164)
          refine StillVC.run (StillVC.nilCheck rfl ?_)
          refine StillVC.run (StillVC.fieldAddr st98 rfl rfl rfl ?_)
          (refine RunVC.store o164 1 rfl ty4 rfl (by simp) (And.intro ⟨rfl, rfl⟩ ?_); intro m167 o167)
          refine RetVC.one rfl ?_
          rw [← hRR]
          subst hLf
          exact ⟨rfl, I9, .slice la L.list.length lc, hI9, o167.sel [0, 1, 3, 4] rfl⟩
      · rw [if_pos he1, finL_bad he1] at hRR
        refine Br.dec (fun hc => absurd hc (by omega)) (fun c140 => ?_)
        refine Br.dec (fun hc => absurd hc (by omega)) (fun c141 => ?_)
        refine Br.ndec (fun c142 => ?_) (fun hc => absurd hc (by first | omega | assumption | decide | exact rfl))
        refine StillVC.run (StillVC.loadON o7 5 rfl ty98 rfl rfl rfl ?_)
        refine StillVC.run (StillVC.nilCheck rfl ?_)
        (refine RunVC.store o7 1 rfl ty98 rfl (by simp) (And.intro ⟨rfl, rfl⟩ ?_); intro m145 o145)
        refine StillVC.run (StillVC.nilCheck rfl ?_)
        refine StillVC.run (StillVC.fieldAddr st98 rfl rfl rfl ?_)
        (refine RunVC.store o145 1 rfl ty4 rfl (by simp) (And.intro ⟨rfl, rfl⟩ ?_); intro m148 o148)
        refine RetVC.one rfl ?_
        rw [← hRR]
        subst hLf
        exact ⟨rfl, I7, .slice la L.list.length lc, hI7, o148.sel [0, 1, 3, 4] rfl⟩

end Go.Proofs.YtfjajkgfgigodaaGreatDoor

/- Arrays of three numbers, compared. -/
namespace Go.Proofs.YtfjajkgfgigodaaGreatDoor
open Go

section
variable {P : Program} {s : List Value} {h : Heap} {ty : TypeId} {K : KK} {pr : Bool}

theorem run_eqInts (w : World) (d : Nat) {e : TypeId} {xs ys : List Int} (hp : P.plainKey e = true) (hu : P.underlying e = some (.int .i64)) : ∀ (is : List Nat), (∀ i ∈ is, i < xs.length ∧ i < ys.length) →
    (Op.eqItems (d + 1) e 1 ⟨xs.map fun x => Value.int .i64 x⟩ ⟨ys.map fun y => Value.int .i64 y⟩ is).run P w = .ok (is.all fun i => decide (xs[i]? = ys[i]?)) w
  | [], _ => by simp [Op.eqItems]
  | i :: is, h => by
    obtain ⟨hx, hy⟩ := h i (by simp)
    have ih := run_eqInts w d (xs := xs) (ys := ys) hp hu is fun j hj => h j (List.mem_cons_of_mem _ hj)
    have e1 : (part e (⟨xs.map fun x => Value.int .i64 x⟩ : Array Value) (i * 1)).run P w = .ok (.int .i64 xs[i]) w := run_part_plain w hp (by simp [hx])
    have e2 : (part e (⟨ys.map fun y => Value.int .i64 y⟩ : Array Value) (i * 1)).run P w = .ok (.int .i64 ys[i]) w := run_part_plain w hp (by simp [hy])
    simp only [Op.eqItems, Sem.run_bind, e1, e2, Result.andThen_ok, run_equalIn_int w d e .i64 .i64 _ _ hu]
    simp only [List.all_cons, List.getElem?_eq_getElem hx, List.getElem?_eq_getElem hy, Option.some.injEq]
    by_cases hxy : xs[i] = ys[i]
    · simp [hxy, ih]
    · simp [hxy]

theorem StillVC.neA3 {t t' e : TypeId} {z : List Value} {by_ : Nat} {x y : Operand} {a b c a' b' c' : Int} (hu : P.underlying t = some (.array 3 e)) (hE : TyI P e false z by_) (hc : P.cellsOf e = 1) (hp : P.plainKey e = true) (he : P.underlying e = some (.int .i64))
    (hg : P.eqGuardType P.depth t = false) (hx : ev s x = .agg ⟨[.int .i64 a, .int .i64 b, .int .i64 c]⟩) (hy : ev s y = .agg ⟨[.int .i64 a', .int .i64 b', .int .i64 c']⟩)
    (hK : K (.bool (!(decide (a = a') && (decide (b = b') && decide (c = c'))))) false h) : StillVC pr P (.binOp .neq t x y t') ty s h K :=
  .pure' _ false (fun w => by
    obtain ⟨i, z', hi, _⟩ := hE.info
    have hr : (Op.equalIn 10000 t (.agg ⟨[.int .i64 a, .int .i64 b, .int .i64 c]⟩) (.agg ⟨[.int .i64 a', .int .i64 b', .int .i64 c']⟩)).run P w = .ok (decide (a = a') && (decide (b = b') && decide (c = c'))) w := by
      rw [run_equalIn_array w 9999 _ _ hu hi, hc]
      have := run_eqInts w 9998 (xs := [a, b, c]) (ys := [a', b', c']) hp he [0, 1, 2] (by simp)
      rw [show List.range 3 = [0, 1, 2] from rfl]
      refine Eq.trans this ?_
      simp
    simp only [execOp, hx, hy, Sem.run_bind, run_eqGuard_agg w .neq t x y _ _ hg, Result.andThen_ok, run_neq_struct, hr, Sem.run_pure]) hK

end
end Go.Proofs.YtfjajkgfgigodaaGreatDoor

/- The reference log: Open. -/
namespace Go.Proofs.YtfjajkgfgigodaaGreatDoor
open Go

/-- What the reference's Open leaves. -/
def KOpenPost (B : Base) (rp : Nat) (I : Item) (r : Except Int Lg) : Value → Heap → Prop := fun v h' => match r with
  | .error e => v = .tuple ⟨[.pointer none, .slice none 0 0, .int .i64 e]⟩ ∧ Own B [I] h'
  | .ok L => ∃ kp lv rv, v = .tuple ⟨[.pointer (some ⟨kp, 0, none⟩), rv, .int .i64 0]⟩ ∧ Own B (I :: KLogI kp rp L lv ++ [row rv 9 1 L.list.length (strs L.list)]) h'

set_option maxHeartbeats 4000000 in
set_option maxRecDepth 100000 in
theorem kopen_nil (h : Heap) : SpecR Tryz.prog 31 [.pointer none] h fun v h' => v = .tuple ⟨[.pointer none, .slice none 0 0, .int .i64 1]⟩ ∧ Own h [] h' := by
  refine Spec.enter Tryz.func31 rfl Tryz.ntmps31 (by kernel_rfl) ?_
  have o0 := Own.refl h
  refine RunVC.eqP (by kernel_rfl) rfl rfl ?_
  refine Br.tt ?_
  refine RetVC.three rfl ?_
  exact ⟨rfl, o0⟩

theorem read_off {d : Dk} (s : Int) (h : d.off = true) : d.read s = ([], 19) := by unfold Dk.read; rw [if_pos h]
theorem read_in {d : Dk} {s : Nat} (h : d.off = false) (hs : s < d.st.length) : d.read (s : Int) = (d.look s, 0) := by
  unfold Dk.read
  rw [if_neg (by rw [h]; decide), if_neg (by omega)]
  rfl
theorem read_out {d : Dk} {s : Nat} (h : d.off = false) (hs : d.st.length ≤ s) : d.read (s : Int) = ([], 1) := by
  unfold Dk.read
  rw [if_neg (by rw [h]; decide), if_pos (by omega)]

def slots178 : List Nat := List.range 178

theorem slots178_mem (i : Nat) (hi : i < 178) : mem slots178 i = true := by
  revert i
  decide +kernel

abbrev kopenQ (B : Base) (rp : Nat) (I : Item) (r : Except Int Lg) : QQ := endQ Tryz.prog Tryz.f31 (Ret (KOpenPost B rp I r))

abbrev kopenS (rp : Nat) : List Value := [.pointer (some ⟨rp, 0, none⟩)] ++ List.replicate (178 - [Value.pointer (some ⟨rp, 0, none⟩)].length) undef

/-- What a head says, in numbers. -/
def HV : Option St → Int → Int → Int → Prop
  | some s, x, y, z => x = s.num ∧ y = s.gen ∧ z = s.len
  | none, x, y, z => x = -1 ∧ y = 0 ∧ z = 0

theorem headV_ex (p : Option St) : ∃ x y z : Int, headV p = [.int .i64 x, .int .i64 y, .int .i64 z] ∧ HV p x y z := by
  cases p with
  | none => exact ⟨-1, 0, 0, rfl, rfl, rfl, rfl⟩
  | some s => exact ⟨s.num, s.gen, s.len, rfl, rfl, rfl, rfl⟩

set_option maxHeartbeats 8000000 in
set_option maxRecDepth 100000 in
theorem kopen_tail (c : Code) (hc : Tryz.f31.body = some c) (B : Base) (rp lp : Nat) (d : Dk) (I : Item) (s : St) (a : Nat) (junk : Nat → Value) (h1 : Heap) (hI : IsRf rp d I) (hq : d.q.length ≤ 1000) (hoff : d.off = false) (h6 : 6 ≤ d.st.length) (hpk : pickH d.look (halfN d.st.length) = some (s, a))
    (o1 : Own B [I, box lp (klogC rp ⟨s, d.st.length, a, [], false⟩ (.slice none 0 0)) 98] h1) :
    havocK slots178 [0, 5, 14] [.pointer (some ⟨rp, 0, none⟩), .int .i64 d.st.length, .pointer (some ⟨lp, 0, none⟩)] junk 0 (kopenS rp) fun s1 => vcode Tryz.prog (cutPost 14 c) (kopenQ B rp I (openF d.look d.st.length)) s1 h1 := by
  have hn4 := (show DOK d from hI.1).le
  have hlk := fun (s : Nat) (hs : s < d.st.length) => look_len (show DOK d from hI.1) hs
  obtain ⟨hfit, hsl, hat⟩ := pick_fits hpk
  have hst := start_le d.st.length s.gen h6
  have hhf : 2 ≤ halfN d.st.length := by unfold halfN; omega
  have hh2 : halfN d.st.length ≤ 2000 := by unfold halfN; omega
  have hgen := hfit.gen
  have hopf : openF d.look d.st.length = match bodsL d.look s.gen (startN d.st.length s.gen) s.len with
      | none => .error 20
      | some bs => openR s d.st.length a (recs bs) := by
    unfold openF
    rw [if_neg (by omega), hpk]
    rfl
  rw [hopf]
  have hro := fun (k : Nat) (hk : k < d.st.length) => read_in (s := k) hoff hk
  have hrd := fun (h : Heap) (o : Own B [I] h) (k : Nat) => rread_spec B rp d I k h hI o (by omega)
  generalize hn : d.st.length = n at *
  generalize d.look = f at *
  generalize hM : bodsL f s.gen (startN n s.gen) s.len = M
  have e := Option.some.inj (hc.symm.trans (rfl : Tryz.f31.body = some _))
  subst e
  simp only [cutPost]
  have o2 : Own B [I, box lp [.pointer (some ⟨rp, 0, none⟩), .int .i64 n, .int .i64 a, .int .i64 s.num, .int .i64 s.gen, .int .i64 s.len, .slice none 0 0, .bool false] 98, row (.slice none 0 0) 9 1 0 []] h1 := o1.nilRow 9 1
  clear o1
  refine LoopVC.intro [2, 3, 4, 15, 16, 17, 18, 19, 20, 132, 133, 134, 135, 136, 137, 138, 139, 140, 141, 142, 143, 144, 145, 146, 147, 148, 149, 150, 151, 152, 153, 154, 155, 156, 157, 158, 159, 160, 161, 162, 163, 164, 165] [15, 16] (fun vs hh => ∃ (i : Nat) (v15 : Value) (bs : List (List UInt8)), i ≤ s.len ∧ vs = [v15, .int .i64 i] ∧ bodsL f s.gen (startN n s.gen) i = some bs ∧ bs.length = i ∧ Own B [I, box lp [.pointer (some ⟨rp, 0, none⟩), .int .i64 n, .int .i64 a, .int .i64 s.num, .int .i64 s.gen, .int .i64 s.len, .slice none 0 0, .bool false] 98, row v15 9 1 i (strs bs)] hh) (fun vs _ => match vs with | [_, .int _ i] => s.len - i.toNat | _ => 0) ?_ ?_
  · exact ⟨0, _, [], by omega, rfl, rfl, rfl, o2⟩
  · clear o2
    rintro vs junk4 hh ⟨i, v15, bs, hi, rfl, hbs, hbl, o⟩
    obtain ⟨xa, xc, rfl⟩ := o.rowIs 2 rfl
    have hbsl : (strs bs).length = i := by simpa using hbl
    by_cases hlt : i < s.len
    · have hfl := hlk (startN n s.gen + i) (by omega)
      have eC : (startN n s.gen : Int) + (i : Int) = ((startN n s.gen + i : Nat) : Int) := by omega
      have hb1 : bodsL f s.gen (startN n s.gen) (i + 1) = if (getR s.gen ((startN n s.gen + i : Nat) : Int) (f (startN n s.gen + i))).2 = 0 then some (bs ++ [(getR s.gen ((startN n s.gen + i : Nat) : Int) (f (startN n s.gen + i))).1]) else none := by
        rw [bodsL, hbs]
      refine StillVC.run (StillVC.fieldAddr st98 rfl rfl rfl ?_)
      refine StillVC.run (StillVC.loadO o 1 rfl ty3 rfl rfl ?_)
      refine Br.dec (fun c42 => ?_) (fun hc => absurd (by omega) hc)
      refine StillVC.run (StillVC.fieldAddr st98 rfl rfl rfl ?_)
      refine StillVC.run (StillVC.loadO o 1 rfl ty3 rfl rfl ?_)
      refine CallVC.ret (kstart_spec lp n s.gen _ (o.cellB 1 rfl 1) (by omega) hn4 (by omega)) ?_
      rintro _ h2 ⟨rfl, oc⟩
      have o2 := o.ext' oc
      clear o oc
      refine Ar.i64 (by omega) (by omega) ?_
      have hrr := hrd _ (o2.sel [0] rfl) (startN n s.gen + i)
      rw [hro _ (by omega)] at hrr
      rw [eC]
      refine CallVC.ret hrr ?_
      clear hrr
      rintro _ h3 ⟨rfl, oc⟩
      have o3 := o2.ext' oc
      clear o2 oc
      refine DrawVC.intro [0, 2, 5, 6, 7, 9, 10, 11, 12, 13] [1, 3] [8] [0, 1, 2, 3, 5, 7, 4, 6, 8, 9, 10, 11, 12, 13] mixed (by kernel_rfl) rfl (fun _ _ _ _ h => h) ?_
      refine StillVC.fieldAddr st98 rfl rfl rfl ?_
      refine StillVC.loadO o3 1 rfl ty3 rfl rfl ?_
      refine StillVC.fieldAddr st98 rfl rfl rfl ?_
      refine StillVC.loadO o3 1 rfl ty3 rfl rfl ?_
      refine CallVC.ret (kstart_spec lp n s.gen _ (o3.cellB 1 rfl 1) (by omega) hn4 (by omega)) ?_
      rintro _ h4 ⟨rfl, oc⟩
      have o4 := o3.ext' oc
      refine And.intro oc.ext ?_
      clear o3 oc
      refine Ar.i64 (by omega) (by omega) ?_
      rw [eC]
      have hg := refGet_spec s.gen ((startN n s.gen + i : Nat) : Int) (f (startN n s.gen + i)) h4 (by omega)
      generalize getR s.gen ((startN n s.gen + i : Nat) : Int) (f (startN n s.gen + i)) = g at hb1 hg
      obtain ⟨b, e⟩ := g
      simp only at hb1 hg
      refine CallVC.ret hg ?_
      clear hg
      rintro _ h5 ⟨rfl, oc⟩
      have o5 := o4.ext' oc
      clear o4 oc
      by_cases he : e = 0
      · rw [if_pos he] at hb1
        refine Br.ndec (fun hc => absurd (by first | omega | assumption | decide | exact rfl) hc) (fun c120 => ?_)
        (refine RunVC.lit o5 sl22 ty9 rfl rfl (by decide) (And.intro rfl ?_); intro b121 m121 o121)
        (refine RunVC.append o121 2 rfl sl22 ty9 (by decide) (o121.boxArr 3 rfl (by simp) (by simp)).toN (by simp [Value.oneCell']) (by simp only [maxLen]; first | omega | (simp; omega)) (by first | omega | (simp; omega)) ?_; intro v122 m122 o122)
        refine Ar.i64 (by omega) (by omega) ?_
        refine ⟨rfl, ?_⟩
        refine ⟨⟨i + 1, v122, bs ++ [b], by omega, by simp, hb1, by simp [hbl], ?_⟩, by simp only; omega⟩
        rw [app_strs]
        exact o122.sel [0, 1, 2] rfl
      · rw [if_neg he] at hb1
        have hM2 : M = none := by rw [← hM]; exact bods_none (by omega) hb1
        rw [hM2]
        refine Br.ndec (fun c120 => ?_) (fun hc => absurd hc (by first | omega | assumption | decide | exact rfl))
        refine RetVC.three rfl ?_
        exact ⟨rfl, o5.sel [0] rfl⟩
    · obtain rfl : i = s.len := by omega
      rw [hM] at hbs
      subst hbs
      have hbi := (bods_iff (by have := hfit.gen; omega) (by omega)).1 hM
      refine StillVC.run (StillVC.fieldAddr st98 rfl rfl rfl ?_)
      refine StillVC.run (StillVC.loadO o 1 rfl ty3 rfl rfl ?_)
      refine Br.dec (fun hc => absurd hc (by omega)) (fun c202 => ?_)
      refine CallVC.ret (krecs_spec bs _ _ (o.rowArr 2 rfl) (by omega) (fun b hb => ?_)) ?_
      · obtain ⟨i, hi⟩ := List.mem_iff_getElem?.1 hb
        exact (hbi.2 i b hi).1
      rintro _ h2 ⟨rv, out, rfl, hout, hol, oc⟩
      have o2 := Own.call o oc
      simp only [List.cons_append, List.nil_append] at o2
      clear o oc
      cases hrc : recs bs with
      | none =>
        have hrr : (match some bs with
          | none => .error 20
          | some bs => openR s n a (recs bs) : Except Int Lg) = .error 20 := by
          simp only [hrc]
          rfl
        rw [hrr]
        refine Br.tt ?_
        refine RetVC.three rfl ?_
        exact ⟨rfl, o2.sel [0] rfl⟩
      | some l =>
        obtain rfl := hout l hrc
        have hrr : (match some bs with
          | none => .error 20
          | some bs => openR s n a (recs bs) : Except Int Lg) = .ok ⟨s, n, a, out, false⟩ := by
          simp only [hrc]
          rfl
        rw [hrr]
        obtain ⟨ya, yc, rfl⟩ := o2.rowIs 3 rfl
        have hosl : (strs out).length = out.length := by simp
        refine Br.ffE (by first | omega | (simp; done)) ?_
        refine StillVC.run (StillVC.fieldAddr st98 rfl rfl rfl ?_)
        (refine RunVC.store o2 1 rfl ty22 rfl (by simp) (And.intro ⟨rfl, rfl⟩ ?_); intro m222 o222)
        (refine RunVC.lit o222 sl22 ty9 rfl rfl (by decide) (And.intro rfl ?_); intro b223 m223 o223)
        have oR := Own.boxRow o223 4 rfl 1 0 0 rfl (Nat.le_refl _) (by decide)
        simp only [List.set_cons_succ, List.set_cons_zero] at oR
        clear o223
        (refine RunVC.append oR 4 rfl sl22 ty9 (by decide) (oR.rowArr 3 rfl).toN (by simp [Value.oneCell']) (by simp only [maxLen]; first | omega | (simp; omega)) (by first | omega | (simp; omega)) ?_; intro v240 m240 o240)
        refine RetVC.three rfl ?_
        have e7 : 0 + (strs out).length = out.length := by simp
        rw [e7] at o240
        exact ⟨lp, .slice ya out.length yc, v240, rfl, o240.sel [0, 1, 3, 4] rfl⟩

def pickP (f : Nat → List UInt8) : Option St → Option St → Option (St × Nat)
  | some a, some b => if a.num = b.num ∧ ¬ (a.gen = b.gen ∧ a.len = b.len) then none else if b.num ≤ a.num then some (a, 0) else some (b, 1)
  | some a, none => some (a, 0)
  | none, some b => some (b, 1)
  | none, none => if f 0 ≠ zS ∧ f 1 ≠ zS then none else some (⟨0, 0, 0⟩, 0)

theorem pickH_eq (f : Nat → List UInt8) (half : Nat) : pickH f half = pickP f (parseH 0 (f 0) half) (parseH 1 (f 1) half) := by
  unfold pickH
  cases parseH 0 (f 0) half <;> cases parseH 1 (f 1) half <;> rfl

set_option maxHeartbeats 8000000 in
set_option maxRecDepth 100000 in
theorem kopen_spec (B : Base) (rp : Nat) (d : Dk) (I : Item) (h : Heap) (hI : IsRf rp d I) (hq : d.q.length ≤ 1000) (o : Own B [I] h) :
    SpecR Tryz.prog 31 [.pointer (some ⟨rp, 0, none⟩)] h (KOpenPost B rp I (openL d)) := by
  have hdk := hI.1
  have hn4 := hdk.le
  generalize hR : openL d = R
  refine Spec.enter Tryz.func31 rfl Tryz.ntmps31 (by kernel_rfl) ?_
  rw [entryK_eq]
  refine vcode_cut 14 slots178 [0, 5, 14] (fun vs h => ∃ lp s a, vs = [.pointer (some ⟨rp, 0, none⟩), .int .i64 d.st.length, .pointer (some ⟨lp, 0, none⟩)] ∧ d.off = false ∧ 6 ≤ d.st.length ∧ pickH d.look (halfN d.st.length) = some (s, a) ∧ Own B [I, box lp (klogC rp ⟨s, d.st.length, a, [], false⟩ (.slice none 0 0)) 98] h) ?_ ?_
  · simp only [cutPre]
    refine RunVC.eqP (by kernel_rfl) rfl rfl ?_
    refine Br.ff ?_
    refine CallVC.ret (rread_spec B rp d I 0 _ hI o (by omega)) ?_
    rintro _ h2 ⟨rfl, oc⟩
    have o2 := o.ext' oc
    clear oc o
    refine LoopVC.intro [5, 7, 31, 32, 33, 34, 35, 36, 37, 38, 39, 40] [5, 7] (fun vs hh => ∃ (n : Nat), n ≤ d.st.length ∧ vs = [.int .i64 n, .int .i64 (d.read n).2] ∧ Own B [I] hh) (fun vs _ => match vs with | [.int _ n, _] => d.st.length - n.toNat | _ => 0) ?_ ?_
    · exact ⟨0, by omega, rfl, o2⟩
    clear o2
    rintro vs junk hh ⟨n, hn, rfl, o⟩
    cases hoff : d.off with
    | true =>
      rw [read_off n hoff]
      have e : R = .error 19 := by rw [← hR]; unfold openL; rw [if_pos hoff]
      refine Br.ff ?_
      refine Br.tt ?_
      refine RetVC.three rfl ?_
      rw [e]
      exact ⟨rfl, o⟩
    | false =>
      have hop : openL d = openF d.look d.st.length := by unfold openL; rw [if_neg (by rw [hoff]; decide)]
      rw [hop] at hR
      by_cases hlt : n < d.st.length
      · rw [read_in hoff hlt]
        refine Br.dec (fun c60 => ?_) (fun hc => absurd (by omega) hc)
        refine Ar.i64 (by omega) (by omega) ?_
        rw [show ((n : Int) + 1) = ((n + 1 : Nat) : Int) from by omega]
        refine CallVC.ret (rread_spec B rp d I ((n + 1 : Nat) : Int) _ hI o (by omega)) ?_
        rintro _ h3 ⟨rfl, oc⟩
        have o3 := o.ext' oc
        clear oc o
        refine ⟨rfl, ?_⟩
        exact ⟨⟨n + 1, by omega, rfl, o3⟩, by simp only; omega⟩
      · obtain rfl : n = d.st.length := by omega
        rw [read_out hoff (Nat.le_refl _)]
        have hlk := fun (s : Nat) (hs : s < d.st.length) => look_len hdk hs
        by_cases h6 : d.st.length < 6
        · have e : R = .error 1 := by rw [← hR]; unfold openF; rw [if_pos h6]
          refine Br.ff ?_
          refine Br.ff ?_
          refine Br.dec (fun c60 => ?_) (fun hc => absurd (by omega) hc)
          refine RetVC.three rfl ?_
          rw [e]
          exact ⟨rfl, o⟩
        · refine Br.ff ?_
          refine Br.ff ?_
          refine Br.dec (fun hc => absurd hc (by omega)) (fun c60 => ?_)
          refine CallVC.ret (rread_spec B rp d I 0 _ hI o (by omega)) ?_
          rw [show d.read 0 = (d.look 0, 0) from read_in (s := 0) hoff (by omega)]
          rintro _ h3 ⟨rfl, oc⟩
          have o3 := o.ext' oc
          clear oc o
          refine CallVC.ret (rread_spec B rp d I 1 _ hI o3 (by omega)) ?_
          rw [show d.read 1 = (d.look 1, 0) from read_in (s := 1) hoff (by omega)]
          rintro _ h4 ⟨rfl, oc⟩
          have o4 := o3.ext' oc
          clear oc o3
          have hl0 := hlk 0 (by omega)
          have hl1 := hlk 1 (by omega)
          clear hlk hdk hI
          generalize hn : d.st.length = n at *
          generalize d.look = f at *
          refine CallVC.ret (khead_spec 0 n (f 0) _ (by omega) (by omega) (by omega) hn4) ?_
          rintro _ h5 ⟨rfl, oc⟩
          have o5 := o4.ext' oc
          clear oc o4
          generalize hp0 : parseH 0 (f 0) (halfN n) = p0
          obtain ⟨x0, y0, z0, hv0, hx0⟩ := headV_ex p0
          rw [hv0]
          (refine RunVC.alloc o5 ty95 ?_; intro b120 m120 o120)
          (refine RunVC.storeL o120 1 rfl ty95 rfl (by decide) (And.intro ⟨rfl, rfl⟩ ?_); intro m121 o121)
          refine CallVC.ret (khead_spec 1 n (f 1) _ (by omega) (by omega) (by omega) hn4) ?_
          rintro _ h6' ⟨rfl, oc⟩
          have o6 := Own.call (by assumption) oc
          generalize hp1 : parseH 1 (f 1) (halfN n) = p1
          obtain ⟨x1, y1, z1, hv1, hx1⟩ := headV_ex p1
          rw [hv1]
          have bad : pickH f (halfN n) = none → ∀ hh, Own B [I] hh → KOpenPost B rp I R (.tuple ⟨[.pointer none, .slice none 0 0, .int .i64 20]⟩) hh := fun hx hh oo => by
            have : R = .error 20 := by rw [← hR]; unfold openF; rw [if_neg (by omega), hx]
            rw [this]
            exact ⟨rfl, oo⟩
          have hpk : pickH f (halfN n) = pickP f p0 p1 := by rw [← hp0, ← hp1]; exact pickH_eq f _
          clear hp0 hp1 hv0 hv1
          cases p0 with
          | some s0 =>
            obtain ⟨rfl, rfl, rfl⟩ := hx0
            cases p1 with
            | some s1 =>
              obtain ⟨rfl, rfl, rfl⟩ := hx1
              simp only [pickP] at hpk
              by_cases hnn : s0.num = s1.num
              · by_cases hgl : s0.gen = s1.gen ∧ s0.len = s1.len
                · rw [if_neg (fun hx => hx.2 hgl), if_pos (by omega)] at hpk
                  (refine RunVC.alloc o6 ty95 ?_; intro b140 m140 o140)
                  (refine RunVC.storeL o140 2 rfl ty95 rfl (by decide) (And.intro ⟨rfl, rfl⟩ ?_); intro m141 o141)
                  refine StillVC.run (StillVC.idxArr arr95.arr arr95.el rfl rfl (by omega) (by omega) ?_)
                  refine StillVC.run (StillVC.loadO o141 1 rfl ty3 rfl rfl ?_)
                  refine Br.dec (fun hc => absurd hc (by omega)) (fun c144 => ?_)
                  refine StillVC.run (StillVC.idxArr arr95.arr arr95.el rfl rfl (by omega) (by omega) ?_)
                  refine StillVC.run (StillVC.loadO o141 1 rfl ty3 rfl rfl ?_)
                  refine Br.dec (fun c147 => ?_) (fun hc => absurd (by omega) hc)
                  refine StillVC.run (StillVC.idxArr arr95.arr arr95.el rfl rfl (by omega) (by omega) ?_)
                  refine StillVC.run (StillVC.loadO o141 1 rfl ty3 rfl rfl ?_)
                  refine StillVC.run (StillVC.idxArr arr95.arr arr95.el rfl rfl (by omega) (by omega) ?_)
                  refine StillVC.run (StillVC.loadO o141 2 rfl ty3 rfl rfl ?_)
                  refine Br.dec (fun c152 => ?_) (fun hc => absurd (by omega) hc)
                  refine StillVC.run (StillVC.loadON o141 1 rfl ty95 rfl rfl rfl ?_)
                  refine StillVC.run (StillVC.loadON o141 2 rfl ty95 rfl rfl rfl ?_)
                  refine StillVC.run (StillVC.neA3 Tryz.underlying95 ty3 (by kernel_rfl) (by kernel_rfl) Tryz.underlying3 (by kernel_rfl) rfl rfl ?_)
                  refine Br.ffE (by first | omega | (simp; omega)) ?_
                  refine StillVC.run (StillVC.buildK st98 ?_)
                  refine And.intro rfl ?_
                  refine And.intro rfl ?_
                  (refine RunVC.alloc o141 ty98 ?_; intro b158 m158 o158)
                  (refine RunVC.storeL o158 3 rfl ty98 rfl (by decide) (And.intro ⟨rfl, rfl⟩ ?_); intro m159 o159)
                  refine StillVC.run (StillVC.idxArr arr95.arr arr95.el rfl rfl (by omega) (by omega) ?_)
                  refine StillVC.run (StillVC.loadO o159 1 rfl ty3 rfl rfl ?_)
                  refine Br.dec (fun c162 => ?_) (fun hc => absurd (by omega) hc)
                  refine StillVC.run (StillVC.idxArr arr95.arr arr95.el rfl rfl (by omega) (by omega) ?_)
                  refine StillVC.run (StillVC.loadO o159 1 rfl ty3 rfl rfl ?_)
                  refine StillVC.run (StillVC.idxArr arr95.arr arr95.el rfl rfl (by omega) (by omega) ?_)
                  refine StillVC.run (StillVC.loadO o159 2 rfl ty3 rfl rfl ?_)
                  refine Br.dec (fun c167 => ?_) (fun hc => absurd (by omega) hc)
                  refine StillVC.run (StillVC.idxArr arr95.arr arr95.el rfl rfl (by omega) (by omega) ?_)
                  refine StillVC.run (StillVC.loadO o159 1 rfl ty3 rfl rfl ?_)
                  refine StillVC.run (StillVC.fieldAddr st98 rfl rfl rfl ?_)
                  (refine RunVC.store o159 3 rfl ty3 rfl (by simp) (And.intro ⟨rfl, rfl⟩ ?_); intro m171 o171)
                  refine StillVC.run (StillVC.idxArr arr95.arr arr95.el rfl rfl (by omega) (by omega) ?_)
                  refine StillVC.run (StillVC.loadO o171 1 rfl ty3 rfl rfl ?_)
                  refine StillVC.run (StillVC.fieldAddr st98 rfl rfl rfl ?_)
                  (refine RunVC.store o171 3 rfl ty3 rfl (by simp) (And.intro ⟨rfl, rfl⟩ ?_); intro m175 o175)
                  refine StillVC.run (StillVC.idxArr arr95.arr arr95.el rfl rfl (by omega) (by omega) ?_)
                  refine StillVC.run (StillVC.loadO o175 1 rfl ty3 rfl rfl ?_)
                  refine StillVC.run (StillVC.fieldAddr st98 rfl rfl rfl ?_)
                  (refine RunVC.store o175 3 rfl ty3 rfl (by simp) (And.intro ⟨rfl, rfl⟩ ?_); intro m179 o179)
                  refine ⟨rfl, ?_⟩
                  exact ⟨_, s0, 0, rfl, rfl, by omega, hpk, Own.sel (by assumption) [0, 3] rfl⟩
                · rw [if_pos ⟨hnn, hgl⟩] at hpk
                  by_cases hg : s0.gen = s1.gen
                  · have hl : ¬ s0.len = s1.len := fun hx => hgl ⟨hg, hx⟩
                    (refine RunVC.alloc o6 ty95 ?_; intro b140 m140 o140)
                    (refine RunVC.storeL o140 2 rfl ty95 rfl (by decide) (And.intro ⟨rfl, rfl⟩ ?_); intro m141 o141)
                    refine StillVC.run (StillVC.idxArr arr95.arr arr95.el rfl rfl (by omega) (by omega) ?_)
                    refine StillVC.run (StillVC.loadO o141 1 rfl ty3 rfl rfl ?_)
                    refine Br.dec (fun hc => absurd hc (by omega)) (fun c144 => ?_)
                    refine StillVC.run (StillVC.idxArr arr95.arr arr95.el rfl rfl (by omega) (by omega) ?_)
                    refine StillVC.run (StillVC.loadO o141 1 rfl ty3 rfl rfl ?_)
                    refine Br.dec (fun c147 => ?_) (fun hc => absurd (by omega) hc)
                    refine StillVC.run (StillVC.idxArr arr95.arr arr95.el rfl rfl (by omega) (by omega) ?_)
                    refine StillVC.run (StillVC.loadO o141 1 rfl ty3 rfl rfl ?_)
                    refine StillVC.run (StillVC.idxArr arr95.arr arr95.el rfl rfl (by omega) (by omega) ?_)
                    refine StillVC.run (StillVC.loadO o141 2 rfl ty3 rfl rfl ?_)
                    refine Br.dec (fun c152 => ?_) (fun hc => absurd (by omega) hc)
                    refine StillVC.run (StillVC.loadON o141 1 rfl ty95 rfl rfl rfl ?_)
                    refine StillVC.run (StillVC.loadON o141 2 rfl ty95 rfl rfl rfl ?_)
                    refine StillVC.run (StillVC.neA3 Tryz.underlying95 ty3 (by kernel_rfl) (by kernel_rfl) Tryz.underlying3 (by kernel_rfl) rfl rfl ?_)
                    refine Br.ttE (by first | omega | (simp; omega)) ?_
                    refine RetVC.three rfl ?_
                    exact bad hpk _ (Own.sel (by assumption) [0] rfl)
                  · (refine RunVC.alloc o6 ty95 ?_; intro b140 m140 o140)
                    (refine RunVC.storeL o140 2 rfl ty95 rfl (by decide) (And.intro ⟨rfl, rfl⟩ ?_); intro m141 o141)
                    refine StillVC.run (StillVC.idxArr arr95.arr arr95.el rfl rfl (by omega) (by omega) ?_)
                    refine StillVC.run (StillVC.loadO o141 1 rfl ty3 rfl rfl ?_)
                    refine Br.dec (fun hc => absurd hc (by omega)) (fun c144 => ?_)
                    refine StillVC.run (StillVC.idxArr arr95.arr arr95.el rfl rfl (by omega) (by omega) ?_)
                    refine StillVC.run (StillVC.loadO o141 1 rfl ty3 rfl rfl ?_)
                    refine Br.dec (fun c147 => ?_) (fun hc => absurd (by omega) hc)
                    refine StillVC.run (StillVC.idxArr arr95.arr arr95.el rfl rfl (by omega) (by omega) ?_)
                    refine StillVC.run (StillVC.loadO o141 1 rfl ty3 rfl rfl ?_)
                    refine StillVC.run (StillVC.idxArr arr95.arr arr95.el rfl rfl (by omega) (by omega) ?_)
                    refine StillVC.run (StillVC.loadO o141 2 rfl ty3 rfl rfl ?_)
                    refine Br.dec (fun c152 => ?_) (fun hc => absurd (by omega) hc)
                    refine StillVC.run (StillVC.loadON o141 1 rfl ty95 rfl rfl rfl ?_)
                    refine StillVC.run (StillVC.loadON o141 2 rfl ty95 rfl rfl rfl ?_)
                    refine StillVC.run (StillVC.neA3 Tryz.underlying95 ty3 (by kernel_rfl) (by kernel_rfl) Tryz.underlying3 (by kernel_rfl) rfl rfl ?_)
                    refine Br.ttE (by first | omega | (simp; omega)) ?_
                    refine RetVC.three rfl ?_
                    exact bad hpk _ (Own.sel (by assumption) [0] rfl)
              · rw [if_neg (fun hx => hnn hx.1)] at hpk
                by_cases hle : s1.num ≤ s0.num
                · rw [if_pos hle] at hpk
                  (refine RunVC.alloc o6 ty95 ?_; intro b140 m140 o140)
                  (refine RunVC.storeL o140 2 rfl ty95 rfl (by decide) (And.intro ⟨rfl, rfl⟩ ?_); intro m141 o141)
                  refine StillVC.run (StillVC.idxArr arr95.arr arr95.el rfl rfl (by omega) (by omega) ?_)
                  refine StillVC.run (StillVC.loadO o141 1 rfl ty3 rfl rfl ?_)
                  refine Br.dec (fun hc => absurd hc (by omega)) (fun c144 => ?_)
                  refine StillVC.run (StillVC.idxArr arr95.arr arr95.el rfl rfl (by omega) (by omega) ?_)
                  refine StillVC.run (StillVC.loadO o141 1 rfl ty3 rfl rfl ?_)
                  refine Br.dec (fun c147 => ?_) (fun hc => absurd (by omega) hc)
                  refine StillVC.run (StillVC.idxArr arr95.arr arr95.el rfl rfl (by omega) (by omega) ?_)
                  refine StillVC.run (StillVC.loadO o141 1 rfl ty3 rfl rfl ?_)
                  refine StillVC.run (StillVC.idxArr arr95.arr arr95.el rfl rfl (by omega) (by omega) ?_)
                  refine StillVC.run (StillVC.loadO o141 2 rfl ty3 rfl rfl ?_)
                  refine Br.dec (fun hc => absurd hc (by omega)) (fun c152 => ?_)
                  refine Br.ff ?_
                  refine StillVC.run (StillVC.buildK st98 ?_)
                  refine And.intro rfl ?_
                  refine And.intro rfl ?_
                  (refine RunVC.alloc o141 ty98 ?_; intro b154 m154 o154)
                  (refine RunVC.storeL o154 3 rfl ty98 rfl (by decide) (And.intro ⟨rfl, rfl⟩ ?_); intro m155 o155)
                  refine StillVC.run (StillVC.idxArr arr95.arr arr95.el rfl rfl (by omega) (by omega) ?_)
                  refine StillVC.run (StillVC.loadO o155 1 rfl ty3 rfl rfl ?_)
                  refine Br.dec (fun c158 => ?_) (fun hc => absurd (by omega) hc)
                  refine StillVC.run (StillVC.idxArr arr95.arr arr95.el rfl rfl (by omega) (by omega) ?_)
                  refine StillVC.run (StillVC.loadO o155 1 rfl ty3 rfl rfl ?_)
                  refine StillVC.run (StillVC.idxArr arr95.arr arr95.el rfl rfl (by omega) (by omega) ?_)
                  refine StillVC.run (StillVC.loadO o155 2 rfl ty3 rfl rfl ?_)
                  refine Br.dec (fun c163 => ?_) (fun hc => absurd (by omega) hc)
                  refine StillVC.run (StillVC.idxArr arr95.arr arr95.el rfl rfl (by omega) (by omega) ?_)
                  refine StillVC.run (StillVC.loadO o155 1 rfl ty3 rfl rfl ?_)
                  refine StillVC.run (StillVC.fieldAddr st98 rfl rfl rfl ?_)
                  (refine RunVC.store o155 3 rfl ty3 rfl (by simp) (And.intro ⟨rfl, rfl⟩ ?_); intro m167 o167)
                  refine StillVC.run (StillVC.idxArr arr95.arr arr95.el rfl rfl (by omega) (by omega) ?_)
                  refine StillVC.run (StillVC.loadO o167 1 rfl ty3 rfl rfl ?_)
                  refine StillVC.run (StillVC.fieldAddr st98 rfl rfl rfl ?_)
                  (refine RunVC.store o167 3 rfl ty3 rfl (by simp) (And.intro ⟨rfl, rfl⟩ ?_); intro m171 o171)
                  refine StillVC.run (StillVC.idxArr arr95.arr arr95.el rfl rfl (by omega) (by omega) ?_)
                  refine StillVC.run (StillVC.loadO o171 1 rfl ty3 rfl rfl ?_)
                  refine StillVC.run (StillVC.fieldAddr st98 rfl rfl rfl ?_)
                  (refine RunVC.store o171 3 rfl ty3 rfl (by simp) (And.intro ⟨rfl, rfl⟩ ?_); intro m175 o175)
                  refine ⟨rfl, ?_⟩
                  exact ⟨_, s0, 0, rfl, rfl, by omega, hpk, Own.sel (by assumption) [0, 3] rfl⟩
                · rw [if_neg hle] at hpk
                  (refine RunVC.alloc o6 ty95 ?_; intro b140 m140 o140)
                  (refine RunVC.storeL o140 2 rfl ty95 rfl (by decide) (And.intro ⟨rfl, rfl⟩ ?_); intro m141 o141)
                  refine StillVC.run (StillVC.idxArr arr95.arr arr95.el rfl rfl (by omega) (by omega) ?_)
                  refine StillVC.run (StillVC.loadO o141 1 rfl ty3 rfl rfl ?_)
                  refine Br.dec (fun hc => absurd hc (by omega)) (fun c144 => ?_)
                  refine StillVC.run (StillVC.idxArr arr95.arr arr95.el rfl rfl (by omega) (by omega) ?_)
                  refine StillVC.run (StillVC.loadO o141 1 rfl ty3 rfl rfl ?_)
                  refine Br.dec (fun c147 => ?_) (fun hc => absurd (by omega) hc)
                  refine StillVC.run (StillVC.idxArr arr95.arr arr95.el rfl rfl (by omega) (by omega) ?_)
                  refine StillVC.run (StillVC.loadO o141 1 rfl ty3 rfl rfl ?_)
                  refine StillVC.run (StillVC.idxArr arr95.arr arr95.el rfl rfl (by omega) (by omega) ?_)
                  refine StillVC.run (StillVC.loadO o141 2 rfl ty3 rfl rfl ?_)
                  refine Br.dec (fun hc => absurd hc (by omega)) (fun c152 => ?_)
                  refine Br.ff ?_
                  refine StillVC.run (StillVC.buildK st98 ?_)
                  refine And.intro rfl ?_
                  refine And.intro rfl ?_
                  (refine RunVC.alloc o141 ty98 ?_; intro b154 m154 o154)
                  (refine RunVC.storeL o154 3 rfl ty98 rfl (by decide) (And.intro ⟨rfl, rfl⟩ ?_); intro m155 o155)
                  refine StillVC.run (StillVC.idxArr arr95.arr arr95.el rfl rfl (by omega) (by omega) ?_)
                  refine StillVC.run (StillVC.loadO o155 1 rfl ty3 rfl rfl ?_)
                  refine Br.dec (fun c158 => ?_) (fun hc => absurd (by omega) hc)
                  refine StillVC.run (StillVC.idxArr arr95.arr arr95.el rfl rfl (by omega) (by omega) ?_)
                  refine StillVC.run (StillVC.loadO o155 1 rfl ty3 rfl rfl ?_)
                  refine StillVC.run (StillVC.idxArr arr95.arr arr95.el rfl rfl (by omega) (by omega) ?_)
                  refine StillVC.run (StillVC.loadO o155 2 rfl ty3 rfl rfl ?_)
                  refine Br.dec (fun hc => absurd hc (by omega)) (fun c163 => ?_)
                  refine StillVC.run (StillVC.idxArr arr95.arr arr95.el rfl rfl (by omega) (by omega) ?_)
                  refine StillVC.run (StillVC.loadO o155 2 rfl ty3 rfl rfl ?_)
                  refine Br.dec (fun c166 => ?_) (fun hc => absurd (by omega) hc)
                  refine StillVC.run (StillVC.fieldAddr st98 rfl rfl rfl ?_)
                  (refine RunVC.store o155 3 rfl ty3 rfl (by simp) (And.intro ⟨rfl, rfl⟩ ?_); intro m168 o168)
                  refine StillVC.run (StillVC.idxArr arr95.arr arr95.el rfl rfl (by omega) (by omega) ?_)
                  refine StillVC.run (StillVC.loadO o168 2 rfl ty3 rfl rfl ?_)
                  refine StillVC.run (StillVC.fieldAddr st98 rfl rfl rfl ?_)
                  (refine RunVC.store o168 3 rfl ty3 rfl (by simp) (And.intro ⟨rfl, rfl⟩ ?_); intro m172 o172)
                  refine StillVC.run (StillVC.idxArr arr95.arr arr95.el rfl rfl (by omega) (by omega) ?_)
                  refine StillVC.run (StillVC.loadO o172 2 rfl ty3 rfl rfl ?_)
                  refine StillVC.run (StillVC.fieldAddr st98 rfl rfl rfl ?_)
                  (refine RunVC.store o172 3 rfl ty3 rfl (by simp) (And.intro ⟨rfl, rfl⟩ ?_); intro m176 o176)
                  refine StillVC.run (StillVC.idxArr arr95.arr arr95.el rfl rfl (by omega) (by omega) ?_)
                  refine StillVC.run (StillVC.loadO o176 2 rfl ty3 rfl rfl ?_)
                  refine StillVC.run (StillVC.fieldAddr st98 rfl rfl rfl ?_)
                  (refine RunVC.store o176 3 rfl ty3 rfl (by simp) (And.intro ⟨rfl, rfl⟩ ?_); intro m180 o180)
                  refine ⟨rfl, ?_⟩
                  exact ⟨_, s1, 1, rfl, rfl, by omega, hpk, Own.sel (by assumption) [0, 3] rfl⟩
            | none =>
              obtain ⟨rfl, rfl, rfl⟩ := hx1
              simp only [pickP] at hpk
              (refine RunVC.alloc o6 ty95 ?_; intro b140 m140 o140)
              (refine RunVC.storeL o140 2 rfl ty95 rfl (by decide) (And.intro ⟨rfl, rfl⟩ ?_); intro m141 o141)
              refine StillVC.run (StillVC.idxArr arr95.arr arr95.el rfl rfl (by omega) (by omega) ?_)
              refine StillVC.run (StillVC.loadO o141 1 rfl ty3 rfl rfl ?_)
              refine Br.dec (fun hc => absurd hc (by omega)) (fun c144 => ?_)
              refine StillVC.run (StillVC.idxArr arr95.arr arr95.el rfl rfl (by omega) (by omega) ?_)
              refine StillVC.run (StillVC.loadO o141 1 rfl ty3 rfl rfl ?_)
              refine Br.dec (fun c147 => ?_) (fun hc => absurd (by omega) hc)
              refine StillVC.run (StillVC.idxArr arr95.arr arr95.el rfl rfl (by omega) (by omega) ?_)
              refine StillVC.run (StillVC.loadO o141 1 rfl ty3 rfl rfl ?_)
              refine StillVC.run (StillVC.idxArr arr95.arr arr95.el rfl rfl (by omega) (by omega) ?_)
              refine StillVC.run (StillVC.loadO o141 2 rfl ty3 rfl rfl ?_)
              refine Br.dec (fun hc => absurd hc (by omega)) (fun c152 => ?_)
              refine Br.ff ?_
              refine StillVC.run (StillVC.buildK st98 ?_)
              refine And.intro rfl ?_
              refine And.intro rfl ?_
              (refine RunVC.alloc o141 ty98 ?_; intro b154 m154 o154)
              (refine RunVC.storeL o154 3 rfl ty98 rfl (by decide) (And.intro ⟨rfl, rfl⟩ ?_); intro m155 o155)
              refine StillVC.run (StillVC.idxArr arr95.arr arr95.el rfl rfl (by omega) (by omega) ?_)
              refine StillVC.run (StillVC.loadO o155 1 rfl ty3 rfl rfl ?_)
              refine Br.dec (fun c158 => ?_) (fun hc => absurd (by omega) hc)
              refine StillVC.run (StillVC.idxArr arr95.arr arr95.el rfl rfl (by omega) (by omega) ?_)
              refine StillVC.run (StillVC.loadO o155 1 rfl ty3 rfl rfl ?_)
              refine StillVC.run (StillVC.idxArr arr95.arr arr95.el rfl rfl (by omega) (by omega) ?_)
              refine StillVC.run (StillVC.loadO o155 2 rfl ty3 rfl rfl ?_)
              refine Br.dec (fun c163 => ?_) (fun hc => absurd (by omega) hc)
              refine StillVC.run (StillVC.idxArr arr95.arr arr95.el rfl rfl (by omega) (by omega) ?_)
              refine StillVC.run (StillVC.loadO o155 1 rfl ty3 rfl rfl ?_)
              refine StillVC.run (StillVC.fieldAddr st98 rfl rfl rfl ?_)
              (refine RunVC.store o155 3 rfl ty3 rfl (by simp) (And.intro ⟨rfl, rfl⟩ ?_); intro m167 o167)
              refine StillVC.run (StillVC.idxArr arr95.arr arr95.el rfl rfl (by omega) (by omega) ?_)
              refine StillVC.run (StillVC.loadO o167 1 rfl ty3 rfl rfl ?_)
              refine StillVC.run (StillVC.fieldAddr st98 rfl rfl rfl ?_)
              (refine RunVC.store o167 3 rfl ty3 rfl (by simp) (And.intro ⟨rfl, rfl⟩ ?_); intro m171 o171)
              refine StillVC.run (StillVC.idxArr arr95.arr arr95.el rfl rfl (by omega) (by omega) ?_)
              refine StillVC.run (StillVC.loadO o171 1 rfl ty3 rfl rfl ?_)
              refine StillVC.run (StillVC.fieldAddr st98 rfl rfl rfl ?_)
              (refine RunVC.store o171 3 rfl ty3 rfl (by simp) (And.intro ⟨rfl, rfl⟩ ?_); intro m175 o175)
              refine ⟨rfl, ?_⟩
              exact ⟨_, s0, 0, rfl, rfl, by omega, hpk, Own.sel (by assumption) [0, 3] rfl⟩
          | none =>
            obtain ⟨rfl, rfl, rfl⟩ := hx0
            cases p1 with
            | some s1 =>
              obtain ⟨rfl, rfl, rfl⟩ := hx1
              simp only [pickP] at hpk
              (refine RunVC.alloc o6 ty95 ?_; intro b140 m140 o140)
              (refine RunVC.storeL o140 2 rfl ty95 rfl (by decide) (And.intro ⟨rfl, rfl⟩ ?_); intro m141 o141)
              refine StillVC.run (StillVC.idxArr arr95.arr arr95.el rfl rfl (by omega) (by omega) ?_)
              refine StillVC.run (StillVC.loadO o141 1 rfl ty3 rfl rfl ?_)
              refine Br.tt ?_
              refine StillVC.run (StillVC.idxArr arr95.arr arr95.el rfl rfl (by omega) (by omega) ?_)
              refine StillVC.run (StillVC.loadO o141 2 rfl ty3 rfl rfl ?_)
              refine Br.dec (fun hc => absurd hc (by omega)) (fun c146 => ?_)
              refine StillVC.run (StillVC.idxArr arr95.arr arr95.el rfl rfl (by omega) (by omega) ?_)
              refine StillVC.run (StillVC.loadO o141 1 rfl ty3 rfl rfl ?_)
              refine Br.ff ?_
              refine Br.ff ?_
              refine StillVC.run (StillVC.buildK st98 ?_)
              refine And.intro rfl ?_
              refine And.intro rfl ?_
              (refine RunVC.alloc o141 ty98 ?_; intro b150 m150 o150)
              (refine RunVC.storeL o150 3 rfl ty98 rfl (by decide) (And.intro ⟨rfl, rfl⟩ ?_); intro m151 o151)
              refine StillVC.run (StillVC.idxArr arr95.arr arr95.el rfl rfl (by omega) (by omega) ?_)
              refine StillVC.run (StillVC.loadO o151 1 rfl ty3 rfl rfl ?_)
              refine Br.ff ?_
              refine Br.ff ?_
              refine StillVC.run (StillVC.idxArr arr95.arr arr95.el rfl rfl (by omega) (by omega) ?_)
              refine StillVC.run (StillVC.loadO o151 2 rfl ty3 rfl rfl ?_)
              refine Br.dec (fun c156 => ?_) (fun hc => absurd (by omega) hc)
              refine StillVC.run (StillVC.fieldAddr st98 rfl rfl rfl ?_)
              (refine RunVC.store o151 3 rfl ty3 rfl (by simp) (And.intro ⟨rfl, rfl⟩ ?_); intro m158 o158)
              refine StillVC.run (StillVC.idxArr arr95.arr arr95.el rfl rfl (by omega) (by omega) ?_)
              refine StillVC.run (StillVC.loadO o158 2 rfl ty3 rfl rfl ?_)
              refine StillVC.run (StillVC.fieldAddr st98 rfl rfl rfl ?_)
              (refine RunVC.store o158 3 rfl ty3 rfl (by simp) (And.intro ⟨rfl, rfl⟩ ?_); intro m162 o162)
              refine StillVC.run (StillVC.idxArr arr95.arr arr95.el rfl rfl (by omega) (by omega) ?_)
              refine StillVC.run (StillVC.loadO o162 2 rfl ty3 rfl rfl ?_)
              refine StillVC.run (StillVC.fieldAddr st98 rfl rfl rfl ?_)
              (refine RunVC.store o162 3 rfl ty3 rfl (by simp) (And.intro ⟨rfl, rfl⟩ ?_); intro m166 o166)
              refine StillVC.run (StillVC.idxArr arr95.arr arr95.el rfl rfl (by omega) (by omega) ?_)
              refine StillVC.run (StillVC.loadO o166 2 rfl ty3 rfl rfl ?_)
              refine StillVC.run (StillVC.fieldAddr st98 rfl rfl rfl ?_)
              (refine RunVC.store o166 3 rfl ty3 rfl (by simp) (And.intro ⟨rfl, rfl⟩ ?_); intro m170 o170)
              refine ⟨rfl, ?_⟩
              exact ⟨_, s1, 1, rfl, rfl, by omega, hpk, Own.sel (by assumption) [0, 3] rfl⟩
            | none =>
              obtain ⟨rfl, rfl, rfl⟩ := hx1
              simp only [pickP] at hpk
              (refine RunVC.alloc o6 ty95 ?_; intro b140 m140 o140)
              (refine RunVC.storeL o140 2 rfl ty95 rfl (by decide) (And.intro ⟨rfl, rfl⟩ ?_); intro m141 o141)
              refine StillVC.run (StillVC.idxArr arr95.arr arr95.el rfl rfl (by omega) (by omega) ?_)
              refine StillVC.run (StillVC.loadO o141 1 rfl ty3 rfl rfl ?_)
              refine Br.tt ?_
              refine StillVC.run (StillVC.idxArr arr95.arr arr95.el rfl rfl (by omega) (by omega) ?_)
              refine StillVC.run (StillVC.loadO o141 2 rfl ty3 rfl rfl ?_)
              refine Br.tt ?_
              refine CallVC.ret (zero_spec _) ?_
              rintro _ h7 ⟨rfl, oc⟩
              have o7 := o141.ext' oc
              clear o141 oc o6
              by_cases hz0 : f 0 = zS
              · rw [if_neg (fun hx => hx.1 hz0)] at hpk
                refine Br.ndec (fun hc => absurd (by first | omega | assumption | decide | exact rfl) hc) (fun c160 => ?_)
                refine StillVC.run (StillVC.idxArr arr95.arr arr95.el rfl rfl (by omega) (by omega) ?_)
                refine StillVC.run (StillVC.loadO o7 1 rfl ty3 rfl rfl ?_)
                refine Br.ff ?_
                refine Br.ff ?_
                refine StillVC.run (StillVC.buildK st98 ?_)
                refine And.intro rfl ?_
                refine And.intro rfl ?_
                (refine RunVC.alloc o7 ty98 ?_; intro b164 m164 o164)
                (refine RunVC.storeL o164 3 rfl ty98 rfl (by decide) (And.intro ⟨rfl, rfl⟩ ?_); intro m165 o165)
                refine StillVC.run (StillVC.idxArr arr95.arr arr95.el rfl rfl (by omega) (by omega) ?_)
                refine StillVC.run (StillVC.loadO o165 1 rfl ty3 rfl rfl ?_)
                refine Br.ff ?_
                refine Br.ff ?_
                refine StillVC.run (StillVC.idxArr arr95.arr arr95.el rfl rfl (by omega) (by omega) ?_)
                refine StillVC.run (StillVC.loadO o165 2 rfl ty3 rfl rfl ?_)
                refine Br.ff ?_
                refine ⟨rfl, ?_⟩
                exact ⟨_, ⟨0, 0, 0⟩, 0, rfl, rfl, by omega, hpk, Own.sel (by assumption) [0, 3] rfl⟩
              · refine Br.ndec (fun c160 => ?_) (fun hc => absurd hc (by first | omega | assumption | decide | exact rfl))
                refine CallVC.ret (zero_spec _) ?_
                rintro _ h8 ⟨rfl, oc⟩
                have o8 := o7.ext' oc
                clear o7 oc
                by_cases hz1 : f 1 = zS
                · rw [if_neg (fun hx => hx.2 hz1)] at hpk
                  refine Br.ndec (fun hc => absurd (by first | omega | assumption | decide | exact rfl) hc) (fun c180 => ?_)
                  refine StillVC.run (StillVC.idxArr arr95.arr arr95.el rfl rfl (by omega) (by omega) ?_)
                  refine StillVC.run (StillVC.loadO o8 1 rfl ty3 rfl rfl ?_)
                  refine Br.ff ?_
                  refine Br.ff ?_
                  refine StillVC.run (StillVC.buildK st98 ?_)
                  refine And.intro rfl ?_
                  refine And.intro rfl ?_
                  (refine RunVC.alloc o8 ty98 ?_; intro b184 m184 o184)
                  (refine RunVC.storeL o184 3 rfl ty98 rfl (by decide) (And.intro ⟨rfl, rfl⟩ ?_); intro m185 o185)
                  refine StillVC.run (StillVC.idxArr arr95.arr arr95.el rfl rfl (by omega) (by omega) ?_)
                  refine StillVC.run (StillVC.loadO o185 1 rfl ty3 rfl rfl ?_)
                  refine Br.ff ?_
                  refine Br.ff ?_
                  refine StillVC.run (StillVC.idxArr arr95.arr arr95.el rfl rfl (by omega) (by omega) ?_)
                  refine StillVC.run (StillVC.loadO o185 2 rfl ty3 rfl rfl ?_)
                  refine Br.ff ?_
                  refine ⟨rfl, ?_⟩
                  exact ⟨_, ⟨0, 0, 0⟩, 0, rfl, rfl, by omega, hpk, Own.sel (by assumption) [0, 3] rfl⟩
                · rw [if_pos ⟨hz0, hz1⟩] at hpk
                  refine Br.ndec (fun c180 => ?_) (fun hc => absurd hc (by first | omega | assumption | decide | exact rfl))
                  refine Br.tt ?_
                  refine RetVC.three rfl ?_
                  exact bad hpk _ (Own.sel (by assumption) [0] rfl)
  · rintro vs junk h1 ⟨lp, s, a, rfl, hoff, h6, hpk, o1⟩
    clear o
    have hop : openL d = openF d.look d.st.length := by unfold openL; rw [if_neg (by rw [hoff]; decide)]
    rw [← hR, hop]
    exact kopen_tail _ rfl B rp lp d I s a junk h1 hI hq hoff h6 hpk o1

end Go.Proofs.YtfjajkgfgigodaaGreatDoor
