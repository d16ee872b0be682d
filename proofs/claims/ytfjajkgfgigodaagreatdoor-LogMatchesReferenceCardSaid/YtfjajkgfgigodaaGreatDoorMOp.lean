/-
  The statements of the log: their operations are few and short. The statements of the log: operations played.
-/
import Derived.Test.YtfjajkgfgigodaaGreatDoorStructs
import Derived.Test.YtfjajkgfgigodaaGreatDoorOps
import Derived.Test.YtfjajkgfgigodaaGreatDoorMEx
import Derived.Test.YtfjajkgfgigodaaGreatDoorVcSep
/- The statements of the log: their operations are few and short. -/
namespace Go.Proofs.YtfjajkgfgigodaaGreatDoor
open Go

/-- An operation that is short. -/
def okW (x : OpW) : Prop := x.body.length ≤ 10000 ∧ x.list.length ≤ 20 ∧ ∀ s ∈ x.list, s.length ≤ 10000

structure LightP (n : Int) (xs : List OpW) : Prop where
  n : n ≤ 40
  len : xs.length ≤ 16
  ok : ∀ x ∈ xs, okW x

theorem strs_get {l : List (List UInt8)} {k : Nat} (hk : k < l.length) : (strs l)[k]? = some (.string ⟨⟨l[k]⟩⟩) := by simp [strs, hk]

theorem take_all {α : Type} {p : α → Prop} {l : List α} {i : Nat} (hi : i < l.length) (h : ∀ x ∈ l.take i, p x) (hx : p l[i]) : ∀ x ∈ l.take (i + 1), p x := by
  intro x hm
  rw [List.take_succ_eq_append_getElem hi, List.mem_append] at hm
  rcases hm with hm | hm
  · exact h x hm
  · rw [List.mem_singleton.1 hm]; exact hx

set_option maxHeartbeats 4000000 in
set_option maxRecDepth 100000 in
theorem light_spec (n : Int) (xs : List OpW) (v : Value) (h : Heap) (hO : Ops h v xs) : SpecR Tryz.prog 18 [.int .i64 n, v] h fun r h' => (∃ b, r = .bool b ∧ (b = true → LightP n xs)) ∧ Own h [] h' := by
  have hA := hO.arr
  have o0 := Own.refl h
  by_cases hn : 40 < n
  · refine Spec.enter Tryz.func18 rfl Tryz.ntmps18 (by kernel_rfl) ?_
    refine Br.dec (fun c60 => ?_) (fun hc => absurd (by omega) hc)
    refine Br.tt ?_
    refine RetVC.one rfl ?_
    exact ⟨⟨false, rfl, fun h => by cases h⟩, o0⟩
  by_cases hl : 16 < xs.length
  · refine Spec.enter Tryz.func18 rfl Tryz.ntmps18 (by kernel_rfl) ?_
    refine Br.dec (fun hc => absurd hc (by omega)) (fun c60 => ?_)
    refine StillVC.run (StillVC.lenN hA sl35 ?_)
    refine Br.dec (fun c62 => ?_) (fun hc => absurd (by omega) hc)
    refine RetVC.one rfl ?_
    exact ⟨⟨false, rfl, fun h => by cases h⟩, o0⟩
  refine Spec.enter Tryz.func18 rfl Tryz.ntmps18 (by kernel_rfl) ?_
  refine Br.dec (fun hc => absurd hc (by omega)) (fun c60 => ?_)
  refine StillVC.run (StillVC.lenN hA sl35 ?_)
  refine Br.dec (fun hc => absurd hc (by omega)) (fun c62 => ?_)
  refine LoopVC.intro [4, 5, 6, 7, 15, 16, 17, 18, 19, 20, 21, 22, 23, 24, 25, 26, 27, 28, 29, 30, 31, 32, 33, 34, 35, 36, 37, 38, 39, 40, 41, 42, 43, 44, 45, 46, 47, 48, 49, 50, 51, 52, 53, 54, 55, 56, 57, 58] [5, 6] (fun vs hh => ∃ i t, i ≤ xs.length ∧ vs = [.int .i64 (t : Nat), .int .i64 (i : Nat)] ∧ t ≤ 10000 ∧ (∀ x ∈ xs.take i, okW x) ∧ Own h [] hh) (fun vs _ => match vs with | [_, .int _ i] => xs.length - i.toNat | _ => 0) ?_ ?_
  · exact ⟨0, 0, by omega, rfl, by omega, by simp, o0⟩
  · rintro vs junk hh ⟨i, t, hi, rfl, ht, hx, o⟩
    have hA1 := hA.ext o.ext
    by_cases hlt : i < xs.length
    · obtain ⟨x, hxi⟩ : ∃ x, xs[i]? = some x := ⟨xs[i], by simp [hlt]⟩
      have hmem : x ∈ xs := List.mem_of_getElem? hxi
      have hxe : xs[i] = x := by
        obtain ⟨h1, h2⟩ := List.getElem?_eq_some_iff.1 hxi
        exact h2
      have ok := hO.ok x hmem
      have hB := ok.arr.ext o.ext
      have hbl := ok.body
      have hf1 : (opC x)[1]? = some (.string ⟨⟨x.body⟩⟩) := rfl
      have hf2 : (opC x)[2]? = some x.lv := rfl
      have hsl : (strs x.list).length = x.list.length := by simp
      by_cases hl20 : 20 < x.list.length
      · refine StillVC.run (StillVC.lenN hA1 sl35 ?_)
        refine Br.dec (fun c81 => ?_) (fun hc => absurd (by omega) hc)
        refine StillVC.run (StillVC.idxN sl35 ty43 hA1 rfl (by omega) (by omega) ?_)
        refine StillVC.run (StillVC.fieldAdr hA1 (by omega) st43 rfl rfl rfl ?_)
        refine StillVC.run (StillVC.loadFF hA1 ty9 (fun _ => rfl) rfl (by assumption) rfl ?_)
        refine StillVC.run (StillVC.lenS rfl str9 ?_)
        refine Ar.i64 (by omega) (by omega) ?_
        refine StillVC.run (StillVC.idxN sl35 ty43 hA1 rfl (by omega) (by omega) ?_)
        refine StillVC.run (StillVC.fieldAdr hA1 (by omega) st43 rfl rfl rfl ?_)
        refine StillVC.run (StillVC.loadFF hA1 ty22 (fun _ => rfl) rfl (by assumption) rfl ?_)
        refine StillVC.run (StillVC.lenAn hB (by assumption) sl22 ?_)
        refine Br.dec (fun c90 => ?_) (fun hc => absurd (by omega) hc)
        refine RetVC.one rfl ?_
        exact ⟨⟨false, rfl, fun h => by cases h⟩, o⟩
      · refine StillVC.run (StillVC.lenN hA1 sl35 ?_)
        refine Br.dec (fun c81 => ?_) (fun hc => absurd (by omega) hc)
        refine StillVC.run (StillVC.idxN sl35 ty43 hA1 rfl (by omega) (by omega) ?_)
        refine StillVC.run (StillVC.fieldAdr hA1 (by omega) st43 rfl rfl rfl ?_)
        refine StillVC.run (StillVC.loadFF hA1 ty9 (fun _ => rfl) rfl (by assumption) rfl ?_)
        refine StillVC.run (StillVC.lenS rfl str9 ?_)
        refine Ar.i64 (by omega) (by omega) ?_
        refine StillVC.run (StillVC.idxN sl35 ty43 hA1 rfl (by omega) (by omega) ?_)
        refine StillVC.run (StillVC.fieldAdr hA1 (by omega) st43 rfl rfl rfl ?_)
        refine StillVC.run (StillVC.loadFF hA1 ty22 (fun _ => rfl) rfl (by assumption) rfl ?_)
        refine StillVC.run (StillVC.lenAn hB (by assumption) sl22 ?_)
        refine Br.dec (fun hc => absurd hc (by omega)) (fun c90 => ?_)
        refine LoopVC.intro [5, 7, 36, 37, 38, 39, 40, 41, 42, 43, 44, 45, 46, 47, 48, 49, 50, 51, 52, 53, 54, 55, 56] [5, 7] (fun vs hh => ∃ k t2, k ≤ x.list.length ∧ vs = [.int .i64 (t2 : Nat), .int .i64 (k : Nat)] ∧ t2 ≤ 10000 + (k + 1) * 140737488351232 ∧ x.body.length ≤ t2 ∧ (∀ s ∈ x.list.take k, s.length ≤ t2) ∧ Own h [] hh) (fun vs _ => match vs with | [_, .int _ i] => x.list.length - i.toNat | _ => 0) ?_ ?_
        · exact ⟨0, t + x.body.length, by omega, by simp, by omega, by omega, by simp, o⟩
        · rintro vs junk h2 ⟨k, t2, hk, rfl, ht2, hb2, hs2, o2⟩
          have hA2 := hA.ext o2.ext
          have hB2 := ok.arr.ext o2.ext
          by_cases hkl : k < x.list.length
          · have hs1 := strs_get hkl
            have hsl2 := ok.list _ (List.getElem_mem hkl)
            refine StillVC.run (StillVC.idxN sl35 ty43 hA2 rfl (by omega) (by omega) ?_)
            refine StillVC.run (StillVC.fieldAdr hA2 (by omega) st43 rfl rfl rfl ?_)
            refine StillVC.run (StillVC.loadFF hA2 ty22 (fun _ => rfl) rfl (by assumption) rfl ?_)
            refine StillVC.run (StillVC.lenAn hB2 (by assumption) sl22 ?_)
            refine Br.dec (fun c104 => ?_) (fun hc => absurd (by omega) hc)
            refine StillVC.run (StillVC.idxN sl35 ty43 hA2 rfl (by omega) (by omega) ?_)
            refine StillVC.run (StillVC.fieldAdr hA2 (by omega) st43 rfl rfl rfl ?_)
            refine StillVC.run (StillVC.loadFF hA2 ty22 (fun _ => rfl) rfl (by assumption) rfl ?_)
            refine StillVC.run (StillVC.idx sl22 ty9 hB2 rfl (by omega) (by omega) ?_)
            refine StillVC.run (StillVC.loadA hB2 ty9 rfl (by first | assumption | rfl) ?_)
            refine StillVC.run (StillVC.lenS rfl str9 ?_)
            refine Ar.i64 (by omega) (by omega) ?_
            refine Ar.i64 (by omega) (by omega) ?_
            refine ⟨rfl, ?_⟩
            refine ⟨⟨k + 1, t2 + x.list[k].length, by omega, by simp, by omega, by omega, ?_, o2⟩, by simp only; omega⟩
            exact take_all hkl (fun s hs => by have := hs2 s hs; omega) (by omega)
          · obtain rfl : k = x.list.length := by omega
            by_cases h10 : 10000 < t2
            · refine StillVC.run (StillVC.idxN sl35 ty43 hA2 rfl (by omega) (by omega) ?_)
              refine StillVC.run (StillVC.fieldAdr hA2 (by omega) st43 rfl rfl rfl ?_)
              refine StillVC.run (StillVC.loadFF hA2 ty22 (fun _ => rfl) rfl (by assumption) rfl ?_)
              refine StillVC.run (StillVC.lenAn hB2 (by assumption) sl22 ?_)
              refine Br.dec (fun hc => absurd hc (by omega)) (fun c104 => ?_)
              refine Br.dec (fun c105 => ?_) (fun hc => absurd (by omega) hc)
              refine RetVC.one rfl ?_
              exact ⟨⟨false, rfl, fun h => by cases h⟩, o2⟩
            · refine StillVC.run (StillVC.idxN sl35 ty43 hA2 rfl (by omega) (by omega) ?_)
              refine StillVC.run (StillVC.fieldAdr hA2 (by omega) st43 rfl rfl rfl ?_)
              refine StillVC.run (StillVC.loadFF hA2 ty22 (fun _ => rfl) rfl (by assumption) rfl ?_)
              refine StillVC.run (StillVC.lenAn hB2 (by assumption) sl22 ?_)
              refine Br.dec (fun hc => absurd hc (by omega)) (fun c104 => ?_)
              refine Br.dec (fun hc => absurd hc (by omega)) (fun c105 => ?_)
              refine Ar.i64 (by omega) (by omega) ?_
              refine ⟨rfl, ?_⟩
              refine ⟨⟨i + 1, t2, by omega, by simp, by omega, ?_, o2⟩, by simp only; omega⟩
              refine take_all hlt hx ?_
              rw [hxe]
              exact ⟨by omega, by omega, fun s hs => by have := hs2 s (by simpa using hs); omega⟩
    · obtain rfl : i = xs.length := by omega
      refine StillVC.run (StillVC.lenN hA1 sl35 ?_)
      refine Br.dec (fun hc => absurd hc (by omega)) (fun c61 => ?_)
      refine RetVC.one rfl ?_
      exact ⟨⟨true, rfl, fun _ => ⟨by omega, by omega, by simpa using hx⟩⟩, o⟩

end Go.Proofs.YtfjajkgfgigodaaGreatDoor

/- The statements of the log: operations played. -/
namespace Go.Proofs.YtfjajkgfgigodaaGreatDoor
open Go

def opP (x : OpW) : OpP := ⟨x.kind.toNat, x.body, x.list⟩

theorem kind_two {h : Heap} {x : OpW} (ok : OpOK h x) : (opP x).kind % 2 = 0 ∧ x.kind % 2 = 0 ∨ (opP x).kind % 2 = 1 ∧ x.kind % 2 = 1 := by
  have := ok.kind
  simp only [opP]
  omega

theorem tmod_kind {x : Int} (h0 : 0 ≤ x) : x.tmod 2 = x % 2 := Int.tmod_eq_emod_of_nonneg h0

theorem play_snoc (p : Pl) (xs : List OpW) {i : Nat} (hi : i < xs.length) : playL p ((xs.take (i + 1)).map opP) = playS (playL p ((xs.take i).map opP)) (opP xs[i]) := by
  rw [List.take_succ_eq_append_getElem hi, List.map_append, playL, List.foldl_append]
  rfl

theorem partsL_mul : ∀ (l : List (List UInt8)), (∀ s ∈ l, s.length ≤ 10000) → (partsL l).length ≤ 10100 * l.length
  | [], _ => by simp [partsL]
  | t :: l, h => by
    have h1 := partsL_mul l fun s hs => h s (List.mem_cons_of_mem _ hs)
    have h2 : (splitL t).length ≤ 10100 := by
      have h1 := chunks_len (wholeL t)
      have hd := decDigits_short t.length (by have := h t List.mem_cons_self; omega)
      have hw := whole_len t
      have := h t List.mem_cons_self
      unfold splitL; omega
    have h3 := h t List.mem_cons_self
    have e : partsL (t :: l) = splitL t ++ partsL l := rfl
    rw [e, List.length_append, List.length_cons]
    omega

theorem partsL_short (l : List (List UInt8)) (hl : l.length ≤ 20) (h : ∀ s ∈ l, s.length ≤ 10000) : (partsL l).length ≤ 1000000 := by
  have := partsL_mul l h
  omega

/-- What a play leaves. -/
def PlayPost (B : Base) (dp lp : Nat) (p : Pl) : Value → Heap → Prop := fun v h' => ∃ outv I' lv', v = .tuple ⟨[outv, .int .i64 p.a, .int .i64 p.r]⟩ ∧ IsDisk dp p.d I' ∧ Own B ((I' :: LogI lp dp p.L lv') ++ [row outv 9 1 p.out.length (strs p.out)]) h'

theorem playS_app {p : Pl} {o : OpP} (hk : o.kind % 2 = 0) : playS p o = ⟨(appL p.L p.d o.body).2.1, (appL p.L p.d o.body).2.2, if (appL p.L p.d o.body).1 = 0 then p.out ++ [o.body] else p.out, if (appL p.L p.d o.body).1 = 0 then p.a + 1 else p.a, p.r⟩ := by
  unfold playS stepL
  simp [hk]

theorem playS_rew {p : Pl} {o : OpP} (hk : o.kind % 2 = 1) : playS p o = ⟨(rewL p.L p.d o.list).2.1, (rewL p.L p.d o.list).2.2, if (rewL p.L p.d o.list).1 = 0 then o.list else p.out, p.a, if (rewL p.L p.d o.list).1 = 0 then p.r + 1 else p.r⟩ := by
  unfold playS stepL
  simp [hk]

set_option maxHeartbeats 8000000 in
set_option maxRecDepth 100000 in
theorem play_spec (B : Base) (lp dp n K : Nat) (d : Dk) (I : Item) (L : Lg) (lv : Value) (xs : List OpW) (ov : Value) (h : Heap) (ht : TabH B.h) (hI : IsDisk dp d I) (hO : Ops B.h ov xs) (hok : ∀ x ∈ xs, okW x) (hl16 : xs.length ≤ 16)
    (hP : PInv n (K + xs.length) ⟨L, d, [], 0, 0⟩) (o : Own B (I :: LogI lp dp L lv) h) :
    SpecR Tryz.prog 19 [.pointer (some ⟨lp, 0, none⟩), ov] h (PlayPost B dp lp (playL ⟨L, d, [], 0, 0⟩ (xs.map opP))) := by
  have hA := hO.arr.ext o.ext
  have o1 := (o.nilRow 9 1)
  unfold LogI at o1
  simp only [List.cons_append, List.nil_append] at o1
  refine Spec.enter Tryz.func19 rfl Tryz.ntmps19 (by kernel_rfl) ?_
  refine LoopVC.intro [7, 8, 9, 10, 11, 12, 13, 14, 15, 16, 17, 18, 19, 20, 21, 22, 23, 24, 25, 26, 27, 28, 29, 30, 31, 32, 33, 34, 35, 36, 37, 38, 39, 40, 41, 42, 43, 44, 45, 46, 47, 48, 49, 50, 51, 52, 53, 54, 55, 56, 57, 58, 59, 60, 61, 62, 63, 64, 65, 66, 67, 68, 69] [7, 8, 9, 10] (fun vs hh => ∃ (i : Nat) (p : Pl) (outv lv' : Value) (I' : Item), i ≤ xs.length ∧ p = playL ⟨L, d, [], 0, 0⟩ ((xs.take i).map opP) ∧ vs = [outv, .int .i64 p.a, .int .i64 p.r, .int .i64 i] ∧ PInv n (K + (xs.length - i)) p ∧ p.a ≤ i ∧ p.r ≤ i ∧ p.out.length ≤ 20 + i ∧ IsDisk dp p.d I' ∧ Own B [I', box lp (logC dp p.L lv') 74, row lv' 9 1 p.L.list.length (strs p.L.list), row outv 9 1 p.out.length (strs p.out)] hh) (fun vs _ => match vs with | [_, _, _, .int _ i] => xs.length - i.toNat | _ => 0) ?_ ?_
  · exact ⟨0, ⟨L, d, [], 0, 0⟩, _, lv, I, by omega, rfl, rfl, hP, Nat.le_refl _, Nat.le_refl _, Nat.zero_le _, hI, o1⟩
  · rintro vs junk hh ⟨i, p, outv, lv', I', hi, hp, rfl, hPi, ha, hr, hol, hI', o2⟩
    clear o1
    have hA1 := hO.arr.ext o2.ext
    by_cases hlt : i < xs.length
    · obtain ⟨x, hxi⟩ : ∃ x, xs[i]? = some x := ⟨xs[i], by simp [hlt]⟩
      have hmem : x ∈ xs := List.mem_of_getElem? hxi
      have hxe : xs[i] = x := by
        obtain ⟨h1, h2⟩ := List.getElem?_eq_some_iff.1 hxi
        exact h2
      have ok := hO.ok x hmem
      have okw := hok x hmem
      have hf0 : (opC x)[0]? = some (.int .u8 x.kind) := rfl
      have hf1 : (opC x)[1]? = some (.string ⟨⟨x.body⟩⟩) := rfl
      have hf2 : (opC x)[2]? = some x.lv := rfl
      have htm := tmod_kind ok.kind.1
      have hk2 := kind_two ok
      have hstep := play_snoc ⟨L, d, [], 0, 0⟩ xs hlt
      rw [← hp, hxe] at hstep
      have hPn : PInv n (K + (xs.length - (i + 1)) + 1) p := by rw [show K + (xs.length - (i + 1)) + 1 = K + (xs.length - i) by omega]; exact hPi
      have hPs := playS_inv hPn (opP x)
      have hn1 := hPi.num
      have hn2 := hPi.k
      have hn3 := hPi.gen
      have hli := hPi.inv.inv.lok
      have hq0 : p.d.q = [] := hPi.inv.inv.calm.q
      rcases hk2 with ⟨hk, hk'⟩ | ⟨hk, hk'⟩
      · rw [hk'] at htm
        rw [playS_app hk] at hstep hPs
        have e1 : (opP x).body = x.body := rfl
        rw [e1] at hstep hPs
        obtain ⟨oa, oc', rfl⟩ := o2.rowIs 3 rfl
        refine StillVC.run (StillVC.lenN hA1 sl35 ?_)
        refine Br.dec (fun c61 => ?_) (fun hc => absurd (by omega) hc)
        refine StillVC.run (StillVC.idxN sl35 ty43 hA1 rfl (by omega) (by omega) ?_)
        refine StillVC.run (StillVC.fieldAdr hA1 (by omega) st43 rfl rfl rfl ?_)
        refine StillVC.run (StillVC.loadFF hA1 ty5 (fun _ => rfl) rfl (by assumption) rfl ?_)
        refine StillVC.run (StillVC.rem rfl rfl (by decide) ?_)
        refine Br.dec (fun c66 => ?_) (fun hc => absurd (by omega) hc)
        refine StillVC.run (StillVC.idxN sl35 ty43 hA1 rfl (by omega) (by omega) ?_)
        refine StillVC.run (StillVC.fieldAdr hA1 (by omega) st43 rfl rfl rfl ?_)
        refine StillVC.run (StillVC.loadFF hA1 ty9 (fun _ => rfl) rfl (by assumption) rfl ?_)
        refine CallVC.ret (append_spec _ lp dp p.d I' p.L lv' x.body _ (by exact ht) hI' (by rw [hq0]; simp) hli (by omega) (by have := okw.1; omega) (o2.lend [0, 1, 2] [3] rfl)) ?_
        rintro _ m3 ⟨rfl, I2, lv2, hI2, oc⟩
        generalize appL p.L p.d x.body = r at *
        have o3 : Own B [I2, box lp (logC dp r.2.1 lv2) 74, row lv2 9 1 r.2.1.list.length (strs r.2.1.list), row (.slice oa p.out.length oc') 9 1 p.out.length (strs p.out)] m3 := oc.back
        clear oc o2 hA1
        have hA1 := hO.arr.ext o3.ext
        by_cases hc : r.1 = 0
        · rw [if_pos hc, if_pos hc] at hstep hPs
          rw [hc]
          refine Br.tt ?_
          refine StillVC.run (StillVC.idxN sl35 ty43 hA1 rfl (by omega) (by omega) ?_)
          refine StillVC.run (StillVC.fieldAdr hA1 (by omega) st43 rfl rfl rfl ?_)
          refine StillVC.run (StillVC.loadFF hA1 ty9 (fun _ => rfl) rfl (by assumption) rfl ?_)
          (refine RunVC.lit o3 sl22 ty9 rfl rfl (by decide) (And.intro rfl ?_); intro b83 m83 o83)
          (refine RunVC.append o83 3 rfl sl22 ty9 (by decide) (o83.boxArr 4 rfl (by simp) (by simp)).toN (by simp [Value.oneCell']) (by simp only [maxLen]; first | omega | (simp; omega)) (by first | omega | (simp; omega)) ?_; intro v84 m84 o84)
          refine Ar.i64 (by omega) (by omega) ?_
          clear hA1
          have hA1 := hO.arr.ext o84.ext
          refine StillVC.run (StillVC.idxN sl35 ty43 hA1 rfl (by omega) (by omega) ?_)
          refine StillVC.run (StillVC.fieldAdr hA1 (by omega) st43 rfl rfl rfl ?_)
          refine StillVC.run (StillVC.loadFF hA1 ty5 (fun _ => rfl) rfl (by assumption) rfl ?_)
          refine StillVC.run (StillVC.rem rfl rfl (by decide) ?_)
          refine Br.dec (fun hc => absurd hc (by omega)) (fun c104 => ?_)
          refine Br.ff ?_
          refine Ar.i64 (by omega) (by omega) ?_
          refine ⟨rfl, ?_⟩
          refine ⟨⟨i + 1, _, _, lv2, I2, by omega, hstep.symm, rfl, hPs, by simp only; omega, by simp only; omega, by simp only [List.length_append, List.length_singleton]; omega, hI2, ?_⟩, by simp only; omega⟩
          simp only [app_strs, app_len]
          exact o84.sel [0, 1, 2, 3] rfl
        · rw [if_neg hc, if_neg hc] at hstep hPs
          refine Br.dec (fun hc => absurd hc (by omega)) (fun c80 => ?_)
          refine StillVC.run (StillVC.idxN sl35 ty43 hA1 rfl (by omega) (by omega) ?_)
          refine StillVC.run (StillVC.fieldAdr hA1 (by omega) st43 rfl rfl rfl ?_)
          refine StillVC.run (StillVC.loadFF hA1 ty5 (fun _ => rfl) rfl (by assumption) rfl ?_)
          refine StillVC.run (StillVC.rem rfl rfl (by decide) ?_)
          refine Br.dec (fun hc => absurd hc (by omega)) (fun c85 => ?_)
          refine Br.ff ?_
          refine Ar.i64 (by omega) (by omega) ?_
          refine ⟨rfl, ?_⟩
          exact ⟨⟨i + 1, _, _, lv2, I2, by omega, hstep.symm, rfl, hPs, by simp only; omega, by simp only; omega, by simp only; omega, hI2, o3⟩, by simp only; omega⟩
      · rw [hk'] at htm
        rw [playS_rew hk] at hstep hPs
        have e1 : (opP x).list = x.list := rfl
        rw [e1] at hstep hPs
        obtain ⟨oa, oc', rfl⟩ := o2.rowIs 3 rfl
        refine StillVC.run (StillVC.lenN hA1 sl35 ?_)
        refine Br.dec (fun c61 => ?_) (fun hc => absurd (by omega) hc)
        refine StillVC.run (StillVC.idxN sl35 ty43 hA1 rfl (by omega) (by omega) ?_)
        refine StillVC.run (StillVC.fieldAdr hA1 (by omega) st43 rfl rfl rfl ?_)
        refine StillVC.run (StillVC.loadFF hA1 ty5 (fun _ => rfl) rfl (by assumption) rfl ?_)
        refine StillVC.run (StillVC.rem rfl rfl (by decide) ?_)
        refine Br.dec (fun hc => absurd hc (by omega)) (fun c66 => ?_)
        refine Br.ff ?_
        refine StillVC.run (StillVC.idxN sl35 ty43 hA1 rfl (by omega) (by omega) ?_)
        refine StillVC.run (StillVC.fieldAdr hA1 (by omega) st43 rfl rfl rfl ?_)
        refine StillVC.run (StillVC.loadFF hA1 ty5 (fun _ => rfl) rfl (by assumption) rfl ?_)
        refine StillVC.run (StillVC.rem rfl rfl (by decide) ?_)
        refine Br.dec (fun c71 => ?_) (fun hc => absurd (by omega) hc)
        refine StillVC.run (StillVC.idxN sl35 ty43 hA1 rfl (by omega) (by omega) ?_)
        refine StillVC.run (StillVC.fieldAdr hA1 (by omega) st43 rfl rfl rfl ?_)
        refine StillVC.run (StillVC.loadFF hA1 ty22 (fun _ => rfl) rfl (by assumption) rfl ?_)
        have o2e : Own B [emptyI, I', box lp (logC dp p.L lv') 74, row lv' 9 1 p.L.list.length (strs p.L.list), row (.slice oa p.out.length oc') 9 1 p.out.length (strs p.out)] hh := o2.emptyI'
        have hpb := partsL_short x.list okw.2.1 okw.2.2
        refine CallVC.ret (rewrite_spec ⟨B.h, [row (.slice oa p.out.length oc') 9 1 p.out.length (strs p.out)] ++ B.T⟩ lp dp p.d I' emptyI p.L lv' x.lv x.list _ (by exact ht) hI' (by rw [hq0]; simp) hli (by have := okw.2.1; omega) (by omega) (fun r hr => by have := okw.2.2 r hr; omega) (RD.base ok.arr) (o2e.lend [1, 2, 3, 0] [4] rfl)) ?_
        rintro _ m3 ⟨rfl, I2, lv2, hI2, oc⟩
        generalize rewL p.L p.d x.list = r at *
        have o3e : Own B [I2, box lp (logC dp r.2.1 lv2) 74, row lv2 9 1 r.2.1.list.length (strs r.2.1.list), emptyI, row (.slice oa p.out.length oc') 9 1 p.out.length (strs p.out)] m3 := oc.back
        have o3 : Own B [I2, box lp (logC dp r.2.1 lv2) 74, row lv2 9 1 r.2.1.list.length (strs r.2.1.list), row (.slice oa p.out.length oc') 9 1 p.out.length (strs p.out)] m3 := o3e.sel [0, 1, 2, 4] rfl
        clear oc o2 o2e o3e hA1
        have hA1 := hO.arr.ext o3.ext
        have hB := ok.arr.ext o3.ext
        by_cases hc : r.1 = 0
        · rw [if_pos hc, if_pos hc] at hstep hPs
          rw [hc]
          refine Br.tt ?_
          (refine RunVC.lit o3 sl22 ty9 rfl rfl (by decide) (And.intro rfl ?_); intro b80 m80 o80)
          have o81 : Own B [I2, box lp (logC dp r.2.1 lv2) 74, row lv2 9 1 r.2.1.list.length (strs r.2.1.list), row (.slice oa p.out.length oc') 9 1 p.out.length (strs p.out), row (.slice (some ⟨b80, 0, none⟩) 0 0) 9 1 0 []] m80 := Own.boxRow o80 4 rfl 1 0 0 rfl (Nat.le_refl _) (by decide)
          clear hA1 hB o80
          have hA1 := hO.arr.ext o81.ext
          have hB := ok.arr.ext o81.ext
          have hsl : (strs x.list).length = x.list.length := by simp
          have h20 := okw.2.1
          refine StillVC.run (StillVC.idxN sl35 ty43 hA1 rfl (by omega) (by omega) ?_)
          refine StillVC.run (StillVC.fieldAdr hA1 (by omega) st43 rfl rfl rfl ?_)
          refine StillVC.run (StillVC.loadFF hA1 ty22 (fun _ => rfl) rfl (by assumption) rfl ?_)
          (refine RunVC.append o81 4 rfl sl22 ty9 (by decide) hB.toN (by simp [Value.oneCell']) (by simp only [maxLen]; first | omega | (simp; omega)) (by first | omega | (simp; omega)) ?_; intro v93 m93 o93)
          refine Ar.i64 (by omega) (by omega) ?_
          refine Ar.i64 (by omega) (by omega) ?_
          refine ⟨rfl, ?_⟩
          have hsl2 : 0 + (strs x.list).length = x.list.length := by simp
          rw [hsl2] at o93
          exact ⟨⟨i + 1, _, _, lv2, I2, by omega, hstep.symm, rfl, hPs, by simp only; omega, by simp only; omega, by simp only; omega, hI2, o93.sel [0, 1, 2, 4] rfl⟩, by simp only; omega⟩
        · rw [if_neg hc, if_neg hc] at hstep hPs
          refine Br.dec (fun hc => absurd hc (by omega)) (fun c80 => ?_)
          refine Ar.i64 (by omega) (by omega) ?_
          refine ⟨rfl, ?_⟩
          exact ⟨⟨i + 1, _, _, lv2, I2, by omega, hstep.symm, rfl, hPs, by simp only; omega, by simp only; omega, by simp only; omega, hI2, o3⟩, by simp only; omega⟩
    · obtain rfl : i = xs.length := by omega
      rw [List.take_length] at hp
      refine StillVC.run (StillVC.lenN hA1 sl35 ?_)
      refine Br.dec (fun hc => absurd hc (by omega)) (fun c61 => ?_)
      refine RetVC.three rfl ?_
      subst hp
      exact ⟨outv, I', lv', rfl, hI', o2⟩

end Go.Proofs.YtfjajkgfgigodaaGreatDoor
