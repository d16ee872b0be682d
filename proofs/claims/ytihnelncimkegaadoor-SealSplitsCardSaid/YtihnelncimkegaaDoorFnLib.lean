/-
  Numerals and joins: the library's contracts as this proof's specifications, and the reference's own numerals.
-/
import Derived.Test.YtihnelncimkegaaDoorStructs
import Derived.Test.YtihnelncimkegaaDoorShelf
namespace Go.Proofs.YtihnelncimkegaaDoor
open Go

theorem Own.of_ext {h h' : Heap} (e : Ext h h') : Own h [] h' := OwnR.own ⟨e, by simp, by simp, by simp, .nil⟩

/-- The library's table of powers of ten lies in this heap. -/
def TabH (h : Heap) : Prop := ∀ w : World, w.heap = h → Lib.TabIs Tryd.prog w "internal/strconv.uint64pow10" .u64 Lib.pow10Tab

theorem TabH.ext {h h' : Heap} (t : TabH h) (e : Ext h h') : TabH h' := by
  intro w hw
  have := t { w with heap := h } rfl
  unfold Lib.TabIs World.var? at this ⊢
  cases hg : Tryd.prog.globalNamed "internal/strconv.uint64pow10" with
  | none => rw [hg] at this; simp at this
  | some g =>
    rw [hg] at this
    simp only [Option.bind_some] at this ⊢
    rw [hw]
    by_cases hb : g < h.size
    · rw [e.old g hb]; exact this
    · have hn : h[g]? = none := Array.getElem?_eq_none (by omega)
      rw [hn] at this; simp at this

theorem itoa_spec (n : Int) (h : Heap) (h0 : -9223372036854775808 ≤ n) (h1 : n ≤ 9223372036854775807) (ht : TabH h) :
    SpecR Tryd.prog 38 [.int .i64 n] h fun r h' => r = .string ⟨⟨Lib.itoa n⟩⟩ ∧ Own h [] h' := by
  refine ⟨⟨_, Tryd.func38, rfl, by kernel_rfl⟩, fun w hw => ?_⟩
  refine (Tryd.strconv_Itoa n h0 h1 w (ht w hw)).mono ?_
  rintro e w' ⟨rfl, k, os, rfl⟩
  refine ⟨⟨rfl, rfl, rfl, by simp [Sort.grow, World.drewN]⟩, rfl, Own.of_ext ⟨?_, fun b hb => ?_⟩⟩
  · subst hw
    simp [Sort.grow, World.drewN]
  · subst hw
    simp [Sort.grow, World.drewN, Array.getElem?_append, hb]

theorem join_spec (ss : List (List UInt8)) (sep : List UInt8) (v : Value) (h : Heap) (a0 : Arr h v (strs ss)) (hl : ss.length ≤ 1000000000) (hj : (Lib.join ss sep).length ≤ 140737488355328) :
    SpecR Tryd.prog 29 [v, .string ⟨⟨sep⟩⟩] h fun r h' => r = .string ⟨⟨Lib.join ss sep⟩⟩ ∧ Own h [] h' := by
  refine ⟨⟨_, Tryd.func29, rfl, by kernel_rfl⟩, fun w hw => ?_⟩
  subst hw
  obtain ⟨a, c, rfl, hc, hr⟩ := a0
  have ln : (strs ss).length = ss.length := by simp
  rcases hr with hr | ⟨b, o, rfl, hr⟩
  · have : ss = [] := by simpa using hr
    subst this
    refine (Tryd.strings_Join_none a c ⟨⟨sep⟩⟩ w).mono ?_
    rintro e w' ⟨rfl, rfl⟩
    exact ⟨.refl _, rfl, Own.refl _⟩
  · by_cases hs : ss = []
    · subst hs
      refine (Tryd.strings_Join_none _ c ⟨⟨sep⟩⟩ w).mono ?_
      rintro e w' ⟨rfl, rfl⟩
      exact ⟨.refl _, rfl, Own.refl _⟩
    · have hpos : 0 < ss.length := List.length_pos_iff.2 hs
      have hm : (ss.map fun s => (⟨⟨s⟩⟩ : ByteArray)).map (fun x => x.data.toList) = ss := by
        rw [List.map_map]
        exact List.map_id ss
      have hx : ((ss.map fun s => (⟨⟨s⟩⟩ : ByteArray))).length = ss.length := by simp
      have key := Tryd.strings_Join b o c (ss.map fun s => (⟨⟨s⟩⟩ : ByteArray)) ⟨⟨sep⟩⟩ w (fun j x hj => by
          rw [cellAt_eq]
          rw [List.getElem?_map, Option.map_eq_some_iff] at hj
          obtain ⟨s, hs1, rfl⟩ := hj
          have hlt : j < ss.length := (List.getElem?_eq_some_iff.1 hs1).1
          rw [hr j (by rw [ln]; exact hlt)]
          simp [hs1])
        (by
          have := hr 0 (by rw [ln]; exact hpos)
          have e0 : (strs ss)[0]? = some (strs ss)[0] := by simp [hpos]
          rw [e0] at this
          exact cellAt_lt this) (by simp; omega) (by rw [hx]; omega) (by rw [hm]; exact hj)
      rw [hm, hx, ← ln] at key
      refine key.mono ?_
      rintro e w' ⟨rfl, hb⟩
      exact ⟨⟨hb.os, hb.tape, hb.output, hb.size⟩, rfl, Own.of_ext ⟨hb.size, hb.block⟩⟩

theorem digit_piece {u : Nat} (h : u < 10) : (List.take (u + 1) ([48, 49, 50, 51, 52, 53, 54, 55, 56, 57] : List UInt8)).drop u = [UInt8.ofNat (48 + u)] := by
  match u, h with
  | 0, _ => rfl
  | 1, _ => rfl
  | 2, _ => rfl
  | 3, _ => rfl
  | 4, _ => rfl
  | 5, _ => rfl
  | 6, _ => rfl
  | 7, _ => rfl
  | 8, _ => rfl
  | 9, _ => rfl

theorem nDigits_le : ∀ (k u : Nat), u < 10 ^ (k + 1) → Lib.nDigits u ≤ k + 1
  | 0, u, h => by
    rw [Lib.nDigits_small (by simpa using h)]
    omega
  | k + 1, u, h => by
    by_cases hu : u < 10
    · rw [Lib.nDigits_small hu]
      omega
    · rw [Lib.nDigits_big hu]
      have := nDigits_le k (u / 10) (by rw [Nat.pow_succ] at h; omega)
      omega

theorem decDigits_short (u : Nat) (h : u < 18446744073709551616) : (Lib.decDigits u).length ≤ 20 := by
  rw [Lib.decDigits_length]
  exact nDigits_le 19 u (by omega)

theorem itoa_short (n : Int) (h0 : -9223372036854775808 ≤ n) (h1 : n ≤ 9223372036854775807) : (Lib.itoa n).length ≤ 21 := by
  unfold Lib.itoa
  split
  · have := decDigits_short n.natAbs (by omega)
    simp
    omega
  · have := decDigits_short n.toNat (by omega)
    omega

end Go.Proofs.YtihnelncimkegaaDoor
