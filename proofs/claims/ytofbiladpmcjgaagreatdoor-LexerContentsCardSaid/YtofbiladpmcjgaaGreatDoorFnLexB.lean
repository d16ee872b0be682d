/-
  The lexer's bytes: letters, digits, bytes of names; how many bytes of a kind stand at an offset.
-/
import Derived.Test.YtofbiladpmcjgaaGreatDoorStructs
namespace Go.Proofs.YtofbiladpmcjgaaGreatDoor
open Go

def letterB (c : UInt8) : Bool := decide (97 ≤ c.toNat ∧ c.toNat ≤ 122 ∨ 65 ≤ c.toNat ∧ c.toNat ≤ 90)
def digitB (c : UInt8) : Bool := decide (48 ≤ c.toNat ∧ c.toNat ≤ 57)
def innerB (c : UInt8) : Bool := letterB c || digitB c || decide (c.toNat = 95)

theorem lowered : ∀ n : Fin 256, (97 ≤ bits .or .u8 (n.val : Int) 32 ∧ bits .or .u8 (n.val : Int) 32 ≤ 122) ↔ (97 ≤ n.val ∧ n.val ≤ 122 ∨ 65 ≤ n.val ∧ n.val ≤ 90) := by decide +kernel

theorem letterB_iff (c : UInt8) : letterB c = true ↔ (97 ≤ bits .or .u8 (c.toNat : Int) 32 ∧ bits .or .u8 (c.toNat : Int) 32 ≤ 122) := by
  rw [lowered ⟨c.toNat, c.toNat_lt⟩]
  simp [letterB]

set_option maxRecDepth 100000 in
theorem digit_spec (c : UInt8) (h : Heap) : SpecR Tryz.prog 25 [.int .u8 c.toNat] h fun r h' => r = .bool (digitB c) ∧ Own h [] h' := by
  refine Spec.enter Tryz.func25 rfl Tryz.ntmps25 (by kernel_rfl) ?_
  have o0 := Own.refl h
  refine Br.dec (fun c10 => ?_) (fun c10 => ?_)
  refine RetVC.one rfl ?_
  rotate_left
  refine RetVC.one rfl ?_
  · exact ⟨congrArg Value.bool (decide_eq_false (by omega)).symm, o0⟩
  · exact ⟨congrArg Value.bool (decide_eq_decide.2 (by omega)), o0⟩

set_option maxRecDepth 100000 in
theorem letter_spec (c : UInt8) (h : Heap) : SpecR Tryz.prog 22 [.int .u8 c.toNat] h fun r h' => r = .bool (letterB c) ∧ Own h [] h' := by
  have hl := letterB_iff c
  refine Spec.enter Tryz.func22 rfl Tryz.ntmps22 (by kernel_rfl) ?_
  have o0 := Own.refl h
  refine StillVC.run (StillVC.bit rfl rfl rfl ?_)
  refine Br.dec (fun c11 => ?_) (fun c11 => ?_)
  refine StillVC.run (StillVC.bit rfl rfl rfl ?_)
  refine RetVC.one rfl ?_
  rotate_left
  refine RetVC.one rfl ?_
  · refine ⟨congrArg Value.bool ?_, o0⟩
    cases hb : letterB c with
    | false => rfl
    | true => exact absurd (hl.1 hb).1 (by assumption)
  · refine ⟨congrArg Value.bool ?_, o0⟩
    rw [Bool.eq_iff_iff, hl, decide_eq_true_iff]
    exact ⟨fun e => ⟨by assumption, e⟩, fun e => e.2⟩

set_option maxRecDepth 100000 in
theorem inner_spec (c : UInt8) (h : Heap) : SpecR Tryz.prog 24 [.int .u8 c.toNat] h fun r h' => r = .bool (innerB c) ∧ Own h [] h' := by
  unfold innerB
  refine Spec.enter Tryz.func24 rfl Tryz.ntmps24 (by kernel_rfl) ?_
  have o0 := Own.refl h
  refine CallVC.ret (letter_spec c _) ?_
  rintro _ h1 ⟨rfl, oa⟩
  have o1 := o0.ext' oa
  cases hb : letterB c with
  | true =>
    refine Br.tt ?_
    refine RetVC.one rfl ?_
    exact ⟨rfl, o1⟩
  | false =>
    refine Br.ff ?_
    refine CallVC.ret (digit_spec c _) ?_
    rintro _ h2 ⟨rfl, ob⟩
    have o2 := o1.ext' ob
    cases hd : digitB c with
    | true =>
      refine Br.tt ?_
      refine RetVC.one rfl ?_
      exact ⟨rfl, o2⟩
    | false =>
      refine Br.ff ?_
      refine RetVC.one rfl ?_
      refine ⟨congrArg Value.bool ?_, o2⟩
      simp only [Bool.or_self, Bool.false_or]
      exact decide_eq_decide.2 (by omega)

def notNl (c : UInt8) : Bool := decide (c.toNat ≠ 10)

set_option maxRecDepth 100000 in
theorem skip1_spec (c : UInt8) (h : Heap) : SpecR Tryz.prog 29 [.int .u8 c.toNat] h fun r h' => r = .bool (notNl c) ∧ Own h [] h' := by
  refine Spec.enter Tryz.func29 rfl Tryz.ntmps29 (by kernel_rfl) ?_
  have o0 := Own.refl h
  refine RetVC.one rfl ?_
  refine ⟨congrArg Value.bool ?_, o0⟩
  unfold notNl
  rw [← decide_not]
  exact decide_eq_decide.2 (by omega)

/- HOW MANY BYTES OF A KIND -/
def spanN (p : UInt8 → Bool) (l : List UInt8) : Nat := (l.takeWhile p).length

theorem spanN_le (p : UInt8 → Bool) (l : List UInt8) : spanN p l ≤ l.length := by
  unfold spanN
  exact (List.takeWhile_sublist p).length_le

theorem spanN_end {p : UInt8 → Bool} : ∀ {l : List UInt8} {n : Nat}, (∀ c ∈ l.take n, p c = true) → n ≤ l.length → (∀ c, l[n]? = some c → p c = false) → spanN p l = n
  | [], n, _, hn, _ => by simp at hn; subst hn; rfl
  | c :: l, 0, _, _, h => by
    have := h c rfl
    unfold spanN
    rw [List.takeWhile_cons, this]
    rfl
  | c :: l, n + 1, ha, hn, h => by
    have hc := ha c (by simp)
    have ih := spanN_end (p := p) (l := l) (n := n) (fun d hd => ha d (by simp [hd])) (by simpa using hn) (fun d hd => h d (by simpa using hd))
    unfold spanN at ih ⊢
    rw [List.takeWhile_cons, hc, if_pos rfl, List.length_cons, ih]

/-- The scan's object: its text, and where it stands. -/
def scanL (b : Nat) (t : List UInt8) (at_ : Nat) : Item := box b [.string ⟨⟨t⟩⟩, .int .i64 at_] 42

set_option maxRecDepth 100000 in
theorem run_spec (p : UInt8 → Bool) (g : Nat) (cap : List Value) (b : Nat) (t : List UInt8) (i : Nat) (h : Heap) (hi : i ≤ t.length) (hl : t.length ≤ 1000000)
    (h0 : cellAt h ⟨b, 0, none⟩ = some (.string ⟨⟨t⟩⟩)) (h1 : cellAt h ⟨b, 1, none⟩ = some (.int .i64 i))
    (hp : ∀ (c : UInt8) (h' : Heap), Ext h h' → SpecR Tryz.prog g (.int .u8 c.toNat :: cap) h' fun r h'' => r = .bool (p c) ∧ Own h' [] h'') :
    SpecR Tryz.prog 23 [.pointer (some ⟨b, 0, none⟩), .func (.func g) ⟨[]⟩ ⟨cap⟩] h fun r h' => r = .int .i64 (spanN p (t.drop i)) ∧ Own h [] h' := by
  refine Spec.enter Tryz.func23 rfl Tryz.ntmps23 (by kernel_rfl) ?_
  have o0 := Own.refl h
  refine LoopVC.intro [5, 6, 7, 8, 9, 10, 11, 12, 13, 14, 15, 16, 17, 18, 19, 20, 21, 22, 23, 24, 25, 26, 27, 28, 29, 30, 31, 32, 33, 34] [5] (fun vs hh => ∃ (n : Nat), i + n ≤ t.length ∧ vs = [.int .i64 n] ∧ (∀ c ∈ (t.drop i).take n, p c = true) ∧ Own h [] hh) (fun vs _ => match vs with | [.int _ n] => t.length - n.toNat | _ => 0) ?_ ?_
  · exact ⟨0, by omega, rfl, by simp, o0⟩
  · rintro vs junk hh ⟨n, hn, rfl, ha, oh⟩
    by_cases hlt : i + n < t.length
    · obtain ⟨c, hc⟩ := getx hlt
      have hc' : (t.drop i)[n]? = some c := by rw [List.getElem?_drop]; exact hc
      refine DrawVC.intro [0, 1, 2, 4, 5, 6, 7, 8, 10, 11, 12, 13, 14, 15, 16, 18, 19, 20, 22, 23, 24, 26] [3, 9, 17, 21] [25] [0, 1, 2, 3, 4, 5, 6, 7, 8, 9, 10, 11, 12, 13, 14, 15, 16, 17, 18, 19, 20, 21, 22, 23, 24, 25, 26] mixed (by kernel_rfl) rfl (fun _ _ _ _ h => h) ?_
      refine StillVC.nilCheck rfl ?_
      refine StillVC.fieldAddr st42 rfl rfl rfl ?_
      refine StillVC.load1 ty3 rfl (oh.old h1) ?_
      refine Ar.i64 (by omega) (by omega) ?_
      refine StillVC.nilCheck rfl ?_
      refine StillVC.fieldAddr st42 rfl rfl rfl ?_
      refine StillVC.load1 ty9 rfl (oh.old h0) ?_
      refine StillVC.lenS rfl str9 ?_
      refine Br.dec (fun c27 => ?_) (fun hc => absurd (by omega) hc)
      refine StillVC.nilCheck rfl ?_
      refine StillVC.fieldAddr st42 rfl rfl rfl ?_
      refine StillVC.load1 ty9 rfl (oh.old h0) ?_
      refine StillVC.nilCheck rfl ?_
      refine StillVC.fieldAddr st42 rfl rfl rfl ?_
      refine StillVC.load1 ty3 rfl (oh.old h1) ?_
      refine Ar.i64 (by omega) (by omega) ?_
      refine StillVC.strIdx rfl rfl str9 (by omega) (by assumption) ?_
      refine CallVC.ret (hp c _ (Own.ext (by assumption))) ?_
      rintro _ h2 ⟨rfl, ob⟩
      have o2 := oh.ext' ob
      cases hb : p c with
      | true =>
        refine Br.tt ?_
        refine Ar.i64 (by omega) (by omega) ?_
        refine ⟨rfl, ?_⟩
        refine ⟨⟨n + 1, by omega, rfl, fun d hd => ?_, o2⟩, by simp; omega⟩
        rw [List.take_add_one, hc'] at hd
        rcases List.mem_append.1 hd with hd | hd
        · exact ha d hd
        · simp at hd; subst hd; exact hb
      | false =>
        have : spanN p (t.drop i) = n := spanN_end ha (by simp; omega) (fun d hd => by rw [hc'] at hd; cases hd; exact hb)
        rw [this]
        refine Br.ff ?_
        refine RetVC.one rfl ?_
        exact ⟨rfl, o2⟩
    · have : spanN p (t.drop i) = n := spanN_end ha (by simp; omega) (fun d hd => by
        obtain ⟨hd', _⟩ := List.getElem?_eq_some_iff.1 hd
        simp at hd'
        omega)
      rw [this]
      refine DrawVC.intro [0, 1, 2, 4, 5, 6, 7, 8, 10, 11, 12, 13, 14, 15, 16, 18, 19, 20, 22, 23, 24, 26] [3, 9, 17, 21] [25] [0, 1, 2, 3, 4, 5, 6, 7, 8, 9, 10, 11, 12, 13, 14, 15, 16, 17, 18, 19, 20, 21, 22, 23, 24, 25, 26] mixed (by kernel_rfl) rfl (fun _ _ _ _ h => h) ?_
      refine StillVC.nilCheck rfl ?_
      refine StillVC.fieldAddr st42 rfl rfl rfl ?_
      refine StillVC.load1 ty3 rfl (oh.old h1) ?_
      refine Ar.i64 (by omega) (by omega) ?_
      refine StillVC.nilCheck rfl ?_
      refine StillVC.fieldAddr st42 rfl rfl rfl ?_
      refine StillVC.load1 ty9 rfl (oh.old h0) ?_
      refine StillVC.lenS rfl str9 ?_
      refine Br.dec (fun hc => absurd hc (by omega)) (fun c87 => ?_)
      refine Br.ff ?_
      refine RetVC.one rfl ?_
      exact ⟨rfl, oh⟩

end Go.Proofs.YtofbiladpmcjgaaGreatDoor
