/-
  The library's contracts as this proof's specifications: numerals, their parsing, cuts.
-/
import Derived.Test.YtemijanhigjmmaaDoorStructs
import Derived.Test.YtemijanhigjmmaaDoorShelf
import Derived.Lib.ParseIntBTie
namespace Go.Proofs.YtemijanhigjmmaaDoor
open Go

theorem Own.of_ext {h h' : Heap} (e : Ext h h') : Own h [] h' := ⟨e, by simp, by simp, by simp, .nil⟩

/-- The library's table of powers of ten lies in this heap. -/
def TabH (h : Heap) : Prop := ∀ w : World, w.heap = h → Lib.TabIs Tryd.prog w "internal/strconv.uint64pow10" .u64 Lib.pow10Tab

theorem TabH.ext {h h' : Heap} (t : TabH h) (e : Ext h h') : TabH h' := by
  intro w hw
  have := t { w with heap := h } rfl
  unfold Lib.TabIs World.var? at this ⊢
  cases hg : Tryd.prog.globalNamed "internal/strconv.uint64pow10" with
  | none => rw [hg] at this; simp at this
  | some g =>
    rw [hg] at this
    simp only [Option.bind_some] at this ⊢
    rw [hw]
    by_cases hb : g < h.size
    · rw [e.old g hb]; exact this
    · have hn : h[g]? = none := Array.getElem?_eq_none (by omega)
      rw [hn] at this; simp at this

theorem itoa_spec (n : Int) (h : Heap) (h0 : -9223372036854775808 ≤ n) (h1 : n ≤ 9223372036854775807) (ht : TabH h) :
    SpecR Tryd.prog 38 [.int .i64 n] h fun r h' => r = .string ⟨⟨Lib.itoa n⟩⟩ ∧ Own h [] h' := by
  refine ⟨⟨_, Tryd.func38, rfl, by kernel_rfl⟩, fun w hw => ?_⟩
  refine (Tryd.strconv_Itoa n h0 h1 w (ht w hw)).mono ?_
  rintro e w' ⟨rfl, k, os, rfl⟩
  refine ⟨⟨rfl, rfl, rfl, by simp [Sort.grow, World.drewN]⟩, rfl, Own.of_ext ⟨?_, fun b hb => ?_⟩⟩
  · subst hw
    simp [Sort.grow, World.drewN]
  · subst hw
    simp [Sort.grow, World.drewN, Array.getElem?_append, hb]

theorem nDigits_le : ∀ (k u : Nat), u < 10 ^ (k + 1) → Lib.nDigits u ≤ k + 1
  | 0, u, h => by
    rw [Lib.nDigits_small (by simpa using h)]
    omega
  | k + 1, u, h => by
    by_cases hu : u < 10
    · rw [Lib.nDigits_small hu]
      omega
    · rw [Lib.nDigits_big hu]
      have := nDigits_le k (u / 10) (by rw [Nat.pow_succ] at h; omega)
      omega

theorem decDigits_short (u : Nat) (h : u < 18446744073709551616) : (Lib.decDigits u).length ≤ 20 := by
  rw [Lib.decDigits_length]
  exact nDigits_le 19 u (by omega)

theorem itoa_short (n : Int) (h0 : -9223372036854775808 ≤ n) (h1 : n ≤ 9223372036854775807) : (Lib.itoa n).length ≤ 21 := by
  unfold Lib.itoa
  split
  · have := decDigits_short n.natAbs (by omega)
    simp
    omega
  · have := decDigits_short n.toNat (by omega)
    omega

/-- The library's own variables that its text functions read: the length up to which it searches at once, and its two errors. -/
def VarH (h : Heap) : Prop := (∃ m, cellAt h ⟨0, 0, none⟩ = some (.int .i64 m)) ∧ (∃ t p, cellAt h ⟨1, 0, none⟩ = some (.iface t p)) ∧ ∃ t p, cellAt h ⟨2, 0, none⟩ = some (.iface t p)

theorem VarH.ext {h h' : Heap} (v : VarH h) (e : Ext h h') : VarH h' := by
  obtain ⟨⟨m, a⟩, ⟨t, p, b⟩, ⟨u, q, c⟩⟩ := v
  exact ⟨⟨m, e.cell a⟩, ⟨t, p, e.cell b⟩, ⟨u, q, e.cell c⟩⟩

theorem cut_spec (s sep : List UInt8) (h : Heap) (hl : s.length ≤ 4294967280) (hv : VarH h) :
    SpecR Tryd.prog 39 [.string ⟨⟨s⟩⟩, .string ⟨⟨sep⟩⟩] h fun r h' => r = .tuple ⟨[.string ⟨⟨(Lib.cut s sep).1⟩⟩, .string ⟨⟨(Lib.cut s sep).2.1⟩⟩, .bool (Lib.cut s sep).2.2]⟩ ∧ Own h [] h' := by
  refine ⟨⟨_, Tryd.func39, rfl, by kernel_rfl⟩, fun w hw => ?_⟩
  subst hw
  obtain ⟨⟨m, hm⟩, _, _⟩ := hv
  refine (Tryd.strings_Cut ⟨⟨s⟩⟩ ⟨⟨sep⟩⟩ m w (by show s.length < _; omega) hm).mono ?_
  rintro e w' ⟨rfl, n, rfl⟩
  exact ⟨⟨rfl, rfl, rfl, Nat.le_refl _⟩, rfl, Own.refl _⟩

/-- What ParseInt(s, 10, 64) returns: the number and whether there is no error. -/
def parseR (s : List UInt8) : Int × Bool :=
  match Lib.parseIntB 64 s with
  | .ok v => (v, true)
  | .range => (Lib.intSat 64 s, false)
  | _ => (0, false)

theorem parseInt_spec (s : List UInt8) (h : Heap) (hl : s.length ≤ 281474976710656) (hv : VarH h) :
    SpecR Tryd.prog 40 [.string ⟨⟨s⟩⟩, .int .i64 10, .int .i64 64] h fun r h' => (∃ e, r = .tuple ⟨[.int .i64 (parseR s).1, e]⟩ ∧ nilI e = some (parseR s).2) ∧ Own h [] h' := by
  refine ⟨⟨_, Tryd.func40, rfl, by kernel_rfl⟩, fun w hw => ?_⟩
  subst hw
  obtain ⟨_, ⟨t1, p1, h1⟩, t2, p2, h2⟩ := hv
  unfold parseR
  cases hp : Lib.parseIntB 64 s with
  | ok v =>
    refine (Tryd.strconv_ParseInt_10_at64_ok ⟨⟨s⟩⟩ (by show s.length ≤ _; omega) v hp w).mono ?_
    rintro e w' ⟨rfl, hw⟩
    rcases hw with rfl | ⟨t, rfl⟩
    · exact ⟨.refl _, ⟨_, rfl, rfl⟩, Own.refl _⟩
    · have hb := Lib.bytesWorld_below w 5 t
      exact ⟨⟨hb.os, hb.tape, hb.output, hb.size⟩, ⟨_, rfl, rfl⟩, Own.of_ext ⟨hb.size, hb.block⟩⟩
  | range =>
    refine (Tryd.strconv_ParseInt_10_at64_range ⟨⟨s⟩⟩ (by show s.length ≤ _; omega) hp _ w h2 (.inr ⟨_, _, rfl⟩)).mono ?_
    rintro e w' ⟨N, rfl, _, _, hb⟩
    exact ⟨⟨hb.os, hb.tape, hb.output, hb.size⟩, ⟨_, rfl, rfl⟩, Own.of_ext ⟨hb.size, hb.block⟩⟩
  | _ =>
    refine (Tryd.strconv_ParseInt_10_at64_syntax ⟨⟨s⟩⟩ (by show s.length ≤ _; omega) hp rfl _ w h1 (.inr ⟨_, _, rfl⟩)).mono ?_
    rintro e w' ⟨N, rfl, _, _, hb⟩
    exact ⟨⟨hb.os, hb.tape, hb.output, hb.size⟩, ⟨_, rfl, rfl⟩, Own.of_ext ⟨hb.size, hb.block⟩⟩


theorem parseR_rng (s : List UInt8) : -9223372036854775808 ≤ (parseR s).1 ∧ (parseR s).1 ≤ 9223372036854775807 := by
  unfold parseR
  cases hp : Lib.parseIntB 64 s with
  | ok v =>
    have := Lib.parseIntB_bounds hp
    simp only at this ⊢
    simp at this
    omega
  | range =>
    simp only [Lib.intSat]
    split <;> simp
  | _ => simp

end Go.Proofs.YtemijanhigjmmaaDoor
