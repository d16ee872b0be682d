/-
  The library's text builder, and its numbers out of texts.
-/
import Derived.Test.YtffpaippmfafjaaGreatDoorStructs
import Derived.Test.YtffpaippmfafjaaGreatDoorFnParP
import Derived.Shelf.Strconv.AtoiAll
namespace Go.Proofs.YtffpaippmfafjaaGreatDoor
open Go

/-- The library's two errors of numerals. -/
def VarH (h : Heap) : Prop := (∃ t p, cellAt h ⟨0, 0, none⟩ = some (.iface t p)) ∧ ∃ t p, cellAt h ⟨1, 0, none⟩ = some (.iface t p)

theorem VarH.ext {h h' : Heap} (v : VarH h) (e : Ext h h') : VarH h' := by
  obtain ⟨⟨t, p, b⟩, ⟨u, q, c⟩⟩ := v
  exact ⟨⟨t, p, e.cell b⟩, ⟨u, q, e.cell c⟩⟩

/-- What Atoi returns: the number, and whether there is no error. -/
def atoiR (s : List UInt8) : Int × Bool :=
  match Lib.atoiAll s with
  | .ok v => (v, true)
  | .range => (Lib.atoiSat s, false)
  | _ => (0, false)

theorem atoiR_rng (s : List UInt8) : -9223372036854775808 ≤ (atoiR s).1 ∧ (atoiR s).1 ≤ 9223372036854775807 := by
  unfold atoiR
  cases hp : Lib.atoiAll s with
  | ok v => exact Lib.atoiAll_bounds hp
  | range =>
    simp only [Lib.atoiSat]
    split <;> simp
  | _ => simp

theorem atoi_spec (s : List UInt8) (h : Heap) (hl : s.length ≤ 281474976710656) (hv : VarH h) :
    SpecR Tryz.prog 46 [.string ⟨⟨s⟩⟩] h fun r h' => (∃ e, r = .tuple ⟨[.int .i64 (atoiR s).1, e]⟩ ∧ nilI e = some (atoiR s).2) ∧ Own h [] h' := by
  refine ⟨⟨_, Tryz.func46, rfl, by kernel_rfl⟩, fun w hw => ?_⟩
  subst hw
  obtain ⟨⟨t1, p1, h1⟩, t2, p2, h2⟩ := hv
  unfold atoiR
  cases hp : Lib.atoiAll s with
  | ok v =>
    refine (Tryz.strconv_Atoi_ok ⟨⟨s⟩⟩ (by show s.length ≤ _; omega) v hp w).mono ?_
    rintro e w' ⟨rfl, hw⟩
    rcases hw with rfl | ⟨t, rfl⟩
    · exact ⟨.refl _, ⟨_, rfl, rfl⟩, Own.refl _⟩
    · have hb := Lib.bytesWorld_below w 5 t
      exact ⟨⟨hb.os, hb.tape, hb.output, hb.size⟩, ⟨_, rfl, rfl⟩, Own.of_ext ⟨hb.size, hb.block⟩⟩
  | range =>
    refine (Tryz.strconv_Atoi_range ⟨⟨s⟩⟩ (by show s.length ≤ _; omega) hp _ w h2 (.inr ⟨_, _, rfl⟩)).mono ?_
    rintro e w' ⟨N, rfl, _, _, hb⟩
    exact ⟨⟨hb.os, hb.tape, hb.output, hb.size⟩, ⟨_, rfl, rfl⟩, Own.of_ext ⟨hb.size, hb.block⟩⟩
  | _ =>
    refine (Tryz.strconv_Atoi_syntax ⟨⟨s⟩⟩ (by show s.length ≤ _; omega) hp rfl _ w h1 (.inr ⟨_, _, rfl⟩)).mono ?_
    rintro e w' ⟨N, rfl, _, _, hb⟩
    exact ⟨⟨hb.os, hb.tape, hb.output, hb.size⟩, ⟨_, rfl, rfl⟩, Own.of_ext ⟨hb.size, hb.block⟩⟩

theorem nilI_cases {e : Value} {b : Bool} (h : nilI e = some b) : (b = true ∧ e = .nilIface) ∨ (b = false ∧ ∃ d u, e = .iface d u) := by
  cases e with
  | nilIface => cases h; exact .inl ⟨rfl, rfl⟩
  | iface d u => cases h; exact .inr ⟨rfl, d, u, rfl⟩
  | _ => cases h

/-- The number that has a text. -/
def decR (s : List UInt8) : Bool := (atoiR s).2 && decide (Lib.itoa (atoiR s).1 = s)

theorem decR_iff {s : List UInt8} (h : decR s = true) : Lib.itoa (atoiR s).1 = s := by
  unfold decR at h
  simp at h
  exact h.2

theorem decR_itoa {n : Int} (h0 : -10000000000 ≤ n) (h1 : n ≤ 10000000000) : decR (Lib.itoa n) = true ∧ (atoiR (Lib.itoa n)).1 = n := by
  have e : atoiR (Lib.itoa n) = (n, true) := by
    unfold atoiR
    rw [atoiAll_itoa n h0 h1]
  unfold decR
  rw [e]
  simp

set_option maxRecDepth 100000 in
theorem decimal_spec (s : List UInt8) (h : Heap) (hl : s.length ≤ 1000000) (hv : VarH h) (hT : TabH h) :
    SpecR Tryz.prog 31 [.string ⟨⟨s⟩⟩] h fun r h' => r = .tuple ⟨[.int .i64 (atoiR s).1, .bool (decR s)]⟩ ∧ Own h [] h' := by
  have hr := atoiR_rng s
  have o0 := Own.refl h
  unfold decR
  refine Spec.enter Tryz.func31 rfl Tryz.ntmps31 (by kernel_rfl) ?_
  refine CallVC.ret (atoi_spec s _ (by omega) hv) ?_
  rintro _ h1 ⟨⟨e, rfl, he⟩, oa⟩
  have o1 := o0.ext' oa
  rcases nilI_cases he with ⟨hb, rfl⟩ | ⟨hb, ed, eu, rfl⟩
  case inr =>
    rw [hb]
    refine StillVC.run (StillVC.eqI ifc65 (by first | assumption | rfl) ?_)
    refine Br.ffE (by first | omega | (simp; done)) ?_
    refine RetVC.two rfl ?_
    exact ⟨rfl, o1⟩
  case inl =>
    rw [hb]
    refine StillVC.run (StillVC.eqI ifc65 (by first | assumption | rfl) ?_)
    refine Br.ttE (by first | omega | (simp; done)) ?_
    refine CallVC.ret (itoa_spec _ _ hr.1 hr.2 (hT.ext o1.ext)) ?_
    rintro _ h2 ⟨rfl, ob⟩
    have o2 := o1.ext' ob
    refine RetVC.two rfl ?_
    exact ⟨by simp, o2⟩

end Go.Proofs.YtffpaippmfafjaaGreatDoor
