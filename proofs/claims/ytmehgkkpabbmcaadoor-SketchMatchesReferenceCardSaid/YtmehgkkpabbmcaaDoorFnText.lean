/-
  Numerals and joins: the library's contracts as this proof's specifications, and the reference's own numerals.
-/
import Derived.Test.YtmehgkkpabbmcaaDoorStructs
import Derived.Test.YtmehgkkpabbmcaaDoorShelf
namespace Go.Proofs.YtmehgkkpabbmcaaDoor
open Go

theorem Own.of_ext {h h' : Heap} (e : Ext h h') : Own h [] h' := ⟨e, by simp, by simp, by simp, .nil⟩

/-- The library's table of powers of ten lies in this heap. -/
def TabH (h : Heap) : Prop := ∀ w : World, w.heap = h → Lib.TabIs Tryd.prog w "internal/strconv.uint64pow10" .u64 Lib.pow10Tab

theorem TabH.ext {h h' : Heap} (t : TabH h) (e : Ext h h') : TabH h' := by
  intro w hw
  have := t { w with heap := h } rfl
  unfold Lib.TabIs World.var? at this ⊢
  cases hg : Tryd.prog.globalNamed "internal/strconv.uint64pow10" with
  | none => rw [hg] at this; simp at this
  | some g =>
    rw [hg] at this
    simp only [Option.bind_some] at this ⊢
    rw [hw]
    by_cases hb : g < h.size
    · rw [e.old g hb]; exact this
    · have hn : h[g]? = none := Array.getElem?_eq_none (by omega)
      rw [hn] at this; simp at this

theorem itoa_spec (n : Int) (h : Heap) (h0 : -9223372036854775808 ≤ n) (h1 : n ≤ 9223372036854775807) (ht : TabH h) :
    SpecR Tryd.prog 31 [.int .i64 n] h fun r h' => r = .string ⟨⟨Lib.itoa n⟩⟩ ∧ Own h [] h' := by
  refine ⟨⟨_, Tryd.func31, rfl, by kernel_rfl⟩, fun w hw => ?_⟩
  refine (Tryd.strconv_Itoa n h0 h1 w (ht w hw)).mono ?_
  rintro e w' ⟨rfl, k, os, rfl⟩
  refine ⟨⟨rfl, rfl, rfl⟩, rfl, Own.of_ext ⟨?_, fun b hb => ?_⟩⟩
  · subst hw
    simp [Sort.grow, World.drewN]
  · subst hw
    simp [Sort.grow, World.drewN, Array.getElem?_append, hb]

theorem join_spec (ss : List (List UInt8)) (sep : List UInt8) (v : Value) (h : Heap) (a0 : Arr h v (strs ss)) (hl : ss.length ≤ 1000000000) (hj : (Lib.join ss sep).length ≤ 140737488355328) :
    SpecR Tryd.prog 32 [v, .string ⟨⟨sep⟩⟩] h fun r h' => r = .string ⟨⟨Lib.join ss sep⟩⟩ ∧ Own h [] h' := by
  refine ⟨⟨_, Tryd.func32, rfl, by kernel_rfl⟩, fun w hw => ?_⟩
  subst hw
  obtain ⟨a, c, rfl, hc, hr⟩ := a0
  have ln : (strs ss).length = ss.length := by simp
  rcases hr with hr | ⟨b, o, rfl, hr⟩
  · have : ss = [] := by simpa using hr
    subst this
    refine (Tryd.strings_Join_none a c ⟨⟨sep⟩⟩ w).mono ?_
    rintro e w' ⟨rfl, rfl⟩
    exact ⟨⟨rfl, rfl, rfl⟩, rfl, Own.refl _⟩
  · by_cases hs : ss = []
    · subst hs
      refine (Tryd.strings_Join_none _ c ⟨⟨sep⟩⟩ w).mono ?_
      rintro e w' ⟨rfl, rfl⟩
      exact ⟨⟨rfl, rfl, rfl⟩, rfl, Own.refl _⟩
    · have hpos : 0 < ss.length := List.length_pos_iff.2 hs
      have hm : (ss.map fun s => (⟨⟨s⟩⟩ : ByteArray)).map (fun x => x.data.toList) = ss := by
        rw [List.map_map]
        exact List.map_id ss
      have hx : ((ss.map fun s => (⟨⟨s⟩⟩ : ByteArray))).length = ss.length := by simp
      have key := Tryd.strings_Join b o c (ss.map fun s => (⟨⟨s⟩⟩ : ByteArray)) ⟨⟨sep⟩⟩ w (fun j x hj => by
          rw [cellAt_eq]
          rw [List.getElem?_map, Option.map_eq_some_iff] at hj
          obtain ⟨s, hs1, rfl⟩ := hj
          have hlt : j < ss.length := (List.getElem?_eq_some_iff.1 hs1).1
          rw [hr j (by rw [ln]; exact hlt)]
          simp [hs1])
        (by
          have := hr 0 (by rw [ln]; exact hpos)
          have e0 : (strs ss)[0]? = some (strs ss)[0] := by simp [hpos]
          rw [e0] at this
          exact cellAt_lt this) (by simp; omega) (by rw [hx]; omega) (by rw [hm]; exact hj)
      rw [hm, hx, ← ln] at key
      refine key.mono ?_
      rintro e w' ⟨rfl, hb⟩
      exact ⟨⟨hb.os, hb.tape, hb.output⟩, rfl, Own.of_ext ⟨hb.size, hb.block⟩⟩

theorem digit_piece {u : Nat} (h : u < 10) : (List.take (u + 1) ([48, 49, 50, 51, 52, 53, 54, 55, 56, 57] : List UInt8)).drop u = [UInt8.ofNat (48 + u)] := by
  match u, h with
  | 0, _ => rfl
  | 1, _ => rfl
  | 2, _ => rfl
  | 3, _ => rfl
  | 4, _ => rfl
  | 5, _ => rfl
  | 6, _ => rfl
  | 7, _ => rfl
  | 8, _ => rfl
  | 9, _ => rfl

theorem nDigits_le : ∀ (k u : Nat), u < 10 ^ (k + 1) → Lib.nDigits u ≤ k + 1
  | 0, u, h => by
    rw [Lib.nDigits_small (by simpa using h)]
    omega
  | k + 1, u, h => by
    by_cases hu : u < 10
    · rw [Lib.nDigits_small hu]
      omega
    · rw [Lib.nDigits_big hu]
      have := nDigits_le k (u / 10) (by rw [Nat.pow_succ] at h; omega)
      omega

theorem decDigits_short (u : Nat) (h : u < 18446744073709551616) : (Lib.decDigits u).length ≤ 20 := by
  rw [Lib.decDigits_length]
  exact nDigits_le 19 u (by omega)

set_option maxRecDepth 100000 in
theorem digits_spec (u : Nat) : ∀ (h : Heap), u < 18446744073709551616 →
    SpecR Tryd.prog 43 [.int .u64 u] h fun r h' => r = .string ⟨⟨Lib.decDigits u⟩⟩ ∧ Own h [] h' := by
  induction u using Nat.strongRecOn with
  | _ u ih =>
    intro h hu
    refine Spec.enter Tryd.func43 rfl Tryd.ntmps43 (by kernel_rfl) ?_
    have o0 := Own.refl h
    by_cases hu10 : u < 10
    · refine Br.dec (fun c10 => ?_) (fun hc => absurd (by omega) hc)
      refine Ar.u64 (by omega) (by omega) ?_
      refine StillVC.run (StillVC.sliceS str9 rfl ⟨_, rfl⟩ ⟨_, rfl⟩ (by omega) (by omega) (by simp only [List.length_cons, List.length_nil, Nat.zero_add]; omega) ?_)
      refine RetVC.one rfl ?_
      refine ⟨?_, o0⟩
      rw [Lib.decDigits_one hu10, ← digit_piece hu10]
      rfl
    · refine Br.dec (fun hc => absurd hc (by omega)) (fun c20 => ?_)
      refine DrawVC.intro [0, 1, 3, 4, 5, 6, 7, 8, 9, 10] [] [2] [0, 1, 3, 4, 5, 6, 7, 8, 2, 9, 10] mixed (by kernel_rfl) rfl (fun _ _ _ _ h => h) ?_
      refine StillVC.quoE rfl rfl (by omega) (by omega) (by simp [IntKind.max, IntKind.signed, IntKind.bits]; omega) ?_
      refine StillVC.remE rfl rfl (by omega) (by omega) ?_
      refine StillVC.remE rfl rfl (by omega) (by omega) ?_
      refine Ar.u64 (by omega) (by omega) ?_
      refine StillVC.sliceS str9 rfl ⟨_, rfl⟩ ⟨_, rfl⟩ (by omega) (by omega) (by simp only [List.length_cons, List.length_nil, Nat.zero_add]; omega) ?_
      have key := ih (u / 10) (by omega) h (by omega)
      rw [Int.natCast_ediv] at key
      refine CallVC.ret key ?_
      rintro _ h1 ⟨rfl, o1⟩
      have hs := decDigits_short (u / 10) (by omega)
      refine StillVC.strAdd rfl rfl (by simp; omega) ?_
      refine RetVC.one rfl ?_
      refine ⟨?_, o1⟩
      have e : Lib.decDigits u = Lib.decDigits (u / 10) ++ [UInt8.ofNat (48 + u % 10)] := by
        rw [Lib.decDigits, dif_neg hu10]
      rw [e, ← digit_piece (u := u % 10) (by omega)]
      rfl

theorem itoa_short (n : Int) (h0 : -9223372036854775808 ≤ n) (h1 : n ≤ 9223372036854775807) : (Lib.itoa n).length ≤ 21 := by
  unfold Lib.itoa
  split
  · have := decDigits_short n.natAbs (by omega)
    simp
    omega
  · have := decDigits_short n.toNat (by omega)
    omega

set_option maxRecDepth 100000 in
theorem decimal_spec (n : Int) (h : Heap) (h0 : -9223372036854775808 ≤ n) (h1 : n ≤ 9223372036854775807) :
    SpecR Tryd.prog 33 [.int .i64 n] h fun r h' => r = .string ⟨⟨Lib.itoa n⟩⟩ ∧ Own h [] h' := by
  refine Spec.enter Tryd.func33 rfl Tryd.ntmps33 (by kernel_rfl) ?_
  have o0 := Own.refl h
  by_cases hn : n < 0
  · refine Br.dec (fun c10 => ?_) (fun hc => absurd (by omega) hc)
    refine StillVC.run (StillVC.convI rfl int3 int57 ?_)
    refine Ar.u64w ?_
    refine Ar.u64w ?_
    have key := digits_spec n.natAbs h (by omega)
    rw [show (n.natAbs : Int) = (0 - n % 18446744073709551616) % 18446744073709551616 by omega] at key
    refine CallVC.ret key ?_
    rintro _ h2 ⟨rfl, o2⟩
    have hs := decDigits_short n.natAbs (by omega)
    refine StillVC.run (StillVC.strAdd rfl rfl (by simp; omega) ?_)
    refine RetVC.one rfl ?_
    refine ⟨?_, o2⟩
    rw [Lib.itoa, if_pos hn]
    rfl
  · refine Br.dec (fun hc => absurd hc (by omega)) (fun c20 => ?_)
    refine StillVC.run (StillVC.convI rfl int3 int57 ?_)
    refine Ar.u64 (by omega) (by omega) ?_
    have key := digits_spec n.toNat h (by omega)
    rw [show (n.toNat : Int) = n by omega] at key
    refine CallVC.ret key ?_
    rintro _ h2 ⟨rfl, o2⟩
    refine RetVC.one rfl ?_
    refine ⟨?_, o2⟩
    rw [Lib.itoa, if_neg hn]

end Go.Proofs.YtmehgkkpabbmcaaDoor
