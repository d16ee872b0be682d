/-
  Texts of chapter 45: cuts, comparisons, the reference's numerals.
-/
import Derived.Test.YtihnelncimkegaaDoorStructs
import Derived.Test.YtihnelncimkegaaDoorFnLib
namespace Go.Proofs.YtihnelncimkegaaDoor
open Go

/-- What stands behind the first colon, if there is one. -/
def cutR (l : List UInt8) : List UInt8 × List UInt8 × Bool := if 0 ≤ Lib.indexByte l 58 then (l.take (Lib.indexByte l 58).toNat, l.drop ((Lib.indexByte l 58).toNat + 1), true) else (l, [], false)

theorem index1_spec (l : List UInt8) (c : UInt8) (h : Heap) : SpecR Tryd.prog 40 [.string ⟨⟨l⟩⟩, .string ⟨⟨[c]⟩⟩] h fun r h' => r = .int .i64 (Lib.indexByte l c) ∧ Own h [] h' := by
  refine ⟨⟨_, Tryd.func40, rfl, by kernel_rfl⟩, fun w hw => ?_⟩
  refine (Tryd.stringslite_Index_one ⟨⟨l⟩⟩ c w).mono ?_
  rintro e w' ⟨rfl, rfl⟩
  subst hw
  exact ⟨.refl w', rfl, .refl _⟩

theorem indexByte_range (l : List UInt8) (c : UInt8) : -1 ≤ Lib.indexByte l c ∧ (Lib.indexByte l c < l.length ∨ l = [] ∧ Lib.indexByte l c = -1) := by
  refine ⟨Lib.indexByte_ge l c, ?_⟩
  induction l with
  | nil => right; exact ⟨rfl, rfl⟩
  | cons b l ih =>
    left
    have hg := Lib.indexByte_ge l c
    simp only [Lib.indexByte, List.length_cons]
    split
    · omega
    · split
      · omega
      · rcases ih with ih | ⟨rfl, ih⟩
        · omega
        · rw [ih]; simp

theorem cut0_spec (l : List UInt8) (h : Heap) (hl : l.length ≤ 140737488355328) : SpecR Tryd.prog 33 [.string ⟨⟨l⟩⟩, .string ⟨⟨[58]⟩⟩] h fun r h' => r = .tuple ⟨[.string ⟨⟨(cutR l).1⟩⟩, .string ⟨⟨(cutR l).2.1⟩⟩, .bool (cutR l).2.2]⟩ ∧ Own h [] h' := by
  refine Spec.enter Tryd.func33 rfl Tryd.ntmps33 (by kernel_rfl) ?_
  have o0 := Own.refl h
  refine CallVC.ret (index1_spec l 58 h) ?_
  rintro _ h1 ⟨rfl, oc⟩
  have o1 := o0.ext' oc
  have hr := indexByte_range l 58
  have h58 : ([58] : List UInt8).length = 1 := rfl
  have hcut : cutR l = if 0 ≤ Lib.indexByte l 58 then (l.take (Lib.indexByte l 58).toNat, l.drop ((Lib.indexByte l 58).toNat + 1), true) else (l, [], false) := rfl
  generalize hi : Lib.indexByte l 58 = i at *
  by_cases h0 : 0 ≤ i
  · refine Br.dec (fun c20 => ?_) (fun hc => absurd (by omega) hc)
    refine DrawVC.intro [0, 1, 2, 3, 4, 5, 6, 7, 8, 9, 10, 11] [] [] [0, 1, 2, 3, 4, 5, 6, 7, 8, 9, 10, 11] mixed (by kernel_rfl) rfl (fun _ _ _ _ h => h) ?_
    refine StillVC.sliceS str9 rfl rfl ⟨_, rfl⟩ (by omega) (by omega) (by omega) ?_
    refine StillVC.lenS rfl str9 ?_
    refine Ar.i64 (by omega) (by omega) ?_
    refine StillVC.sliceS str9 rfl ⟨_, rfl⟩ rfl (by omega) (by omega) (by omega) ?_
    refine RetVC.three rfl ?_
    refine ⟨?_, o1⟩
    rw [hcut, if_pos h0]
    have e1 : (i + (([58] : List UInt8).length : Int)).toNat = i.toNat + 1 := by rw [h58]; omega
    rw [e1, Int.toNat_natCast, List.take_length]
    rfl
  · refine Br.dec (fun hc => absurd hc (by omega)) (fun c30 => ?_)
    refine RetVC.three rfl ?_
    refine ⟨?_, o1⟩
    rw [hcut, if_neg h0]

theorem cut_spec (l : List UInt8) (h : Heap) (hl : l.length ≤ 140737488355328) : SpecR Tryd.prog 28 [.string ⟨⟨l⟩⟩, .string ⟨⟨[58]⟩⟩] h fun r h' => r = .tuple ⟨[.string ⟨⟨(cutR l).1⟩⟩, .string ⟨⟨(cutR l).2.1⟩⟩, .bool (cutR l).2.2]⟩ ∧ Own h [] h' := by
  refine Spec.enter Tryd.func28 rfl Tryd.ntmps28 (by kernel_rfl) ?_
  refine CallVC.ret (cut0_spec l h hl) ?_
  rintro _ h1 ⟨rfl, oc⟩
  refine RetVC.three rfl ?_
  exact ⟨rfl, oc⟩

theorem ne_at {α : Type} {a b : List α} {i : Nat} {x y : α} (hx : a[i]? = some x) (hy : b[i]? = some y) (h : ¬ x = y) : a ≠ b := by
  intro e
  rw [e, hy] at hx
  injection hx with hx
  exact h hx.symm

theorem take_eq_step {α : Type} {a b : List α} {i : Nat} {x : α} (hx : a[i]? = some x) (hy : b[i]? = some x) (h : a.take i = b.take i) : a.take (i + 1) = b.take (i + 1) := by
  rw [List.take_add_one, List.take_add_one, hx, hy, h]

theorem equal_spec (a b : List (List UInt8)) (va vb : Value) (h : Heap) (a0 : Arr h va (strs a)) (b0 : Arr h vb (strs b)) (ha : a.length ≤ 1000000000) :
    SpecR Tryd.prog 30 [va, vb] h fun r h' => r = .bool (decide (a = b)) ∧ Own h [] h' := by
  refine Spec.enter Tryd.func30 rfl Tryd.ntmps30 (by kernel_rfl) ?_
  have la : (strs a).length = a.length := by simp
  have lb : (strs b).length = b.length := by simp
  by_cases hab : a.length = b.length
  · refine StillVC.run (StillVC.lenAn a0 (by assumption) sl22 ?_)
    refine StillVC.run (StillVC.lenAn b0 (by assumption) sl22 ?_)
    refine Br.ndec (fun hc => absurd (by first | omega | assumption | decide | exact rfl) hc) (fun c12 => ?_)
    refine StillVC.run (StillVC.lenAn a0 (by assumption) sl22 ?_)
    refine LoopVC.intro [4, 5, 13, 14, 15, 16, 17, 18, 19, 20, 21, 22, 23, 24, 25] [13] (fun vs h1 => ∃ (i : Nat), i ≤ a.length ∧ vs = [.int .i64 i] ∧ a.take i = b.take i ∧ h1 = h) (fun vs _ => match vs with | [.int _ i] => a.length - i.toNat | _ => 0) ?_ ?_
    · exact ⟨0, by omega, rfl, rfl, rfl⟩
    · rintro vs junk h1 ⟨i, hi, rfl, he, rfl⟩
      by_cases hlt : i < a.length
      · obtain ⟨x, hx⟩ := getx hlt
        obtain ⟨y, hy⟩ := getx (show i < b.length by omega)
        by_cases hxy : x = y
        · subst hxy
          refine Br.dec (fun c20 => ?_) (fun hc => absurd (by omega) hc)
          refine DrawVC.intro [0, 1, 2, 4, 5, 6, 8] [3, 7] [] [0, 1, 2, 3, 4, 5, 6, 7, 8] mixed (by kernel_rfl) rfl (fun _ _ _ _ h => h) ?_
          refine StillVC.idx sl22 ty9 a0 rfl (by omega) (by omega) ?_
          refine StillVC.loadM a0 ty9 rfl (by first | assumption | rfl) ?_
          refine StillVC.idx sl22 ty9 b0 rfl (by omega) (by omega) ?_
          refine StillVC.loadM b0 ty9 rfl (by first | assumption | rfl) ?_
          refine Br.ndec (fun hc => absurd (by first | omega | assumption | decide | exact rfl) hc) (fun c25 => ?_)
          refine Ar.i64 (by omega) (by omega) ?_
          refine ⟨rfl, ?_⟩
          exact ⟨⟨i + 1, by omega, rfl, take_eq_step hx hy he, rfl⟩, by simp; omega⟩
        · refine Br.dec (fun c30 => ?_) (fun hc => absurd (by omega) hc)
          refine DrawVC.intro [0, 1, 2, 4, 5, 6, 8] [3, 7] [] [0, 1, 2, 3, 4, 5, 6, 7, 8] mixed (by kernel_rfl) rfl (fun _ _ _ _ h => h) ?_
          refine StillVC.idx sl22 ty9 a0 rfl (by omega) (by omega) ?_
          refine StillVC.loadM a0 ty9 rfl (by first | assumption | rfl) ?_
          refine StillVC.idx sl22 ty9 b0 rfl (by omega) (by omega) ?_
          refine StillVC.loadM b0 ty9 rfl (by first | assumption | rfl) ?_
          refine Br.ndec (fun c35 => ?_) (fun hc => absurd hc (by first | omega | assumption | decide | exact rfl))
          refine RetVC.one rfl ?_
          exact ⟨by rw [decide_eq_false (ne_at hx hy hxy)], .refl _⟩
      · refine Br.dec (fun hc => absurd hc (by omega)) (fun c40 => ?_)
        refine RetVC.one rfl ?_
        refine ⟨?_, .refl _⟩
        rw [List.take_of_length_le (by omega), List.take_of_length_le (by omega)] at he
        rw [decide_eq_true he]
  · refine StillVC.run (StillVC.lenAn a0 (by assumption) sl22 ?_)
    refine StillVC.run (StillVC.lenAn b0 (by assumption) sl22 ?_)
    refine Br.ndec (fun c52 => ?_) (fun hc => absurd hc (by first | omega | assumption | decide | exact rfl))
    refine RetVC.one rfl ?_
    exact ⟨by rw [decide_eq_false (fun e => hab (by rw [e]))], .refl _⟩

theorem same_spec (a b : List (List UInt8)) (va vb : Value) (h : Heap) (a0 : Arr h va (strs a)) (b0 : Arr h vb (strs b)) (ha : a.length ≤ 1000000000) :
    SpecR Tryd.prog 19 [va, vb] h fun r h' => r = .bool (decide (a = b)) ∧ Own h [] h' := by
  refine Spec.enter Tryd.func19 rfl Tryd.ntmps19 (by kernel_rfl) ?_
  have la : (strs a).length = a.length := by simp
  have lb : (strs b).length = b.length := by simp
  by_cases hab : a.length = b.length
  · refine StillVC.run (StillVC.lenAn a0 (by assumption) sl22 ?_)
    refine StillVC.run (StillVC.lenAn b0 (by assumption) sl22 ?_)
    refine Br.ndec (fun hc => absurd (by first | omega | assumption | decide | exact rfl) hc) (fun c12 => ?_)
    refine LoopVC.intro [4, 5, 11, 12, 13, 14, 15, 16, 17, 18, 19, 20, 21, 22, 23, 24, 25] [5] (fun vs h1 => ∃ (i : Nat), i ≤ a.length ∧ vs = [.int .i64 i] ∧ a.take i = b.take i ∧ h1 = h) (fun vs _ => match vs with | [.int _ i] => a.length - i.toNat | _ => 0) ?_ ?_
    · exact ⟨0, by omega, rfl, rfl, rfl⟩
    · rintro vs junk h1 ⟨i, hi, rfl, he, rfl⟩
      by_cases hlt : i < a.length
      · obtain ⟨x, hx⟩ := getx hlt
        obtain ⟨y, hy⟩ := getx (show i < b.length by omega)
        by_cases hxy : x = y
        · subst hxy
          refine StillVC.run (StillVC.lenAn a0 (by assumption) sl22 ?_)
          refine Br.dec (fun c21 => ?_) (fun hc => absurd (by omega) hc)
          refine DrawVC.intro [0, 1, 2, 4, 5, 6, 8] [3, 7] [] [0, 1, 2, 3, 4, 5, 6, 7, 8] mixed (by kernel_rfl) rfl (fun _ _ _ _ h => h) ?_
          refine StillVC.idx sl22 ty9 a0 rfl (by omega) (by omega) ?_
          refine StillVC.loadM a0 ty9 rfl (by first | assumption | rfl) ?_
          refine StillVC.idx sl22 ty9 b0 rfl (by omega) (by omega) ?_
          refine StillVC.loadM b0 ty9 rfl (by first | assumption | rfl) ?_
          refine Br.ndec (fun hc => absurd (by first | omega | assumption | decide | exact rfl) hc) (fun c26 => ?_)
          refine Ar.i64 (by omega) (by omega) ?_
          refine ⟨rfl, ?_⟩
          exact ⟨⟨i + 1, by omega, rfl, take_eq_step hx hy he, rfl⟩, by simp; omega⟩
        · refine StillVC.run (StillVC.lenAn a0 (by assumption) sl22 ?_)
          refine Br.dec (fun c31 => ?_) (fun hc => absurd (by omega) hc)
          refine DrawVC.intro [0, 1, 2, 4, 5, 6, 8] [3, 7] [] [0, 1, 2, 3, 4, 5, 6, 7, 8] mixed (by kernel_rfl) rfl (fun _ _ _ _ h => h) ?_
          refine StillVC.idx sl22 ty9 a0 rfl (by omega) (by omega) ?_
          refine StillVC.loadM a0 ty9 rfl (by first | assumption | rfl) ?_
          refine StillVC.idx sl22 ty9 b0 rfl (by omega) (by omega) ?_
          refine StillVC.loadM b0 ty9 rfl (by first | assumption | rfl) ?_
          refine Br.ndec (fun c36 => ?_) (fun hc => absurd hc (by first | omega | assumption | decide | exact rfl))
          refine RetVC.one rfl ?_
          exact ⟨by rw [decide_eq_false (ne_at hx hy hxy)], .refl _⟩
      · refine StillVC.run (StillVC.lenAn a0 (by assumption) sl22 ?_)
        refine Br.dec (fun hc => absurd hc (by omega)) (fun c41 => ?_)
        refine RetVC.one rfl ?_
        refine ⟨?_, .refl _⟩
        rw [List.take_of_length_le (by omega), List.take_of_length_le (by omega)] at he
        rw [decide_eq_true he]
  · refine StillVC.run (StillVC.lenAn a0 (by assumption) sl22 ?_)
    refine StillVC.run (StillVC.lenAn b0 (by assumption) sl22 ?_)
    refine Br.ndec (fun c52 => ?_) (fun hc => absurd hc (by first | omega | assumption | decide | exact rfl))
    refine RetVC.one rfl ?_
    exact ⟨by rw [decide_eq_false (fun e => hab (by rw [e]))], .refl _⟩

def bytesB (ss : List (List UInt8)) : Bool := decide (ss.length ≤ 40) && ss.all fun s => decide (s.length ≤ 200)

theorem bytes40_spec (ss : List (List UInt8)) (v : Value) (h : Heap) (a0 : Arr h v (strs ss)) (hl : ss.length ≤ 140737488351232) :
    SpecR Tryd.prog 10 [v] h fun r h' => r = .bool (bytesB ss) ∧ Own h [] h' := by
  refine Spec.enter Tryd.func10 rfl Tryd.ntmps10 (by kernel_rfl) ?_
  have ls : (strs ss).length = ss.length := by simp
  refine LoopVC.intro [2, 3, 4, 5, 6, 7, 8, 9, 10, 11, 12, 13, 14, 15] [3] (fun vs h1 => ∃ (i : Nat), i ≤ ss.length ∧ vs = [.int .i64 i] ∧ (ss.take i).all (fun s => decide (s.length ≤ 200)) = true ∧ h1 = h) (fun vs _ => match vs with | [.int _ i] => ss.length - i.toNat | _ => 0) ?_ ?_
  · exact ⟨0, by omega, rfl, rfl, rfl⟩
  · rintro vs junk h1 ⟨i, hi, rfl, he, rfl⟩
    by_cases hlt : i < ss.length
    · obtain ⟨x, hx⟩ := getx hlt
      by_cases hxl : 200 < x.length
      · refine StillVC.run (StillVC.lenAn a0 (by assumption) sl22 ?_)
        refine Br.dec (fun c21 => ?_) (fun hc => absurd (by omega) hc)
        refine StillVC.run (StillVC.idx sl22 ty9 a0 rfl (by omega) (by omega) ?_)
        refine StillVC.run (StillVC.loadM a0 ty9 rfl (by first | assumption | rfl) ?_)
        refine StillVC.run (StillVC.lenS rfl str9 ?_)
        refine Br.dec (fun c25 => ?_) (fun hc => absurd (by omega) hc)
        refine RetVC.one rfl ?_
        refine ⟨?_, .refl _⟩
        have : ss.all (fun s => decide (s.length ≤ 200)) = false := by
          rw [List.all_eq_false]
          exact ⟨x, List.mem_of_getElem? hx, by simp; omega⟩
        rw [bytesB, this, Bool.and_false]
      · refine StillVC.run (StillVC.lenAn a0 (by assumption) sl22 ?_)
        refine Br.dec (fun c31 => ?_) (fun hc => absurd (by omega) hc)
        refine StillVC.run (StillVC.idx sl22 ty9 a0 rfl (by omega) (by omega) ?_)
        refine StillVC.run (StillVC.loadM a0 ty9 rfl (by first | assumption | rfl) ?_)
        refine StillVC.run (StillVC.lenS rfl str9 ?_)
        refine Br.dec (fun hc => absurd hc (by omega)) (fun c35 => ?_)
        refine Ar.i64 (by omega) (by omega) ?_
        refine ⟨rfl, ?_⟩
        refine ⟨⟨i + 1, by omega, rfl, ?_, rfl⟩, by simp; omega⟩
        rw [List.take_add_one, hx, List.all_append, he]
        simp; omega
    · refine StillVC.run (StillVC.lenAn a0 (by assumption) sl22 ?_)
      refine Br.dec (fun hc => absurd hc (by omega)) (fun c41 => ?_)
      refine StillVC.run (StillVC.lenAn a0 (by assumption) sl22 ?_)
      refine RetVC.one rfl ?_
      refine ⟨?_, .refl _⟩
      rw [List.take_of_length_le (by omega)] at he
      rw [bytesB, he, Bool.and_true]
      congr 1
      simp; omega

/- THE REFERENCE's NUMERALS -/
def digs (u : Nat) : List UInt8 := if u = 0 then [] else Lib.decDigits u

theorem digs_step {u : Nat} (h : 0 < u) : digs u = digs (u / 10) ++ [UInt8.ofNat (48 + u % 10)] := by
  unfold digs
  rw [if_neg (by omega)]
  by_cases h10 : u < 10
  · rw [if_pos (by omega), Lib.decDigits, dif_pos h10, Nat.mod_eq_of_lt h10]; rfl
  · rw [if_neg (by omega), Lib.decDigits, dif_neg h10]

theorem digs_len (u : Nat) (h : u < 18446744073709551616) : (digs u).length ≤ 20 := by
  unfold digs
  split
  · simp
  · exact decDigits_short u h

set_option maxRecDepth 100000 in
theorem digits_spec (u : Nat) : ∀ (h : Heap), u < 9223372036854775808 →
    SpecR Tryd.prog 39 [.int .i64 u] h fun r h' => r = .string ⟨⟨digs u⟩⟩ ∧ Own h [] h' := by
  induction u using Nat.strongRecOn with
  | _ u ih =>
    intro h hu
    refine Spec.enter Tryd.func39 rfl Tryd.ntmps39 (by kernel_rfl) ?_
    have o0 := Own.refl h
    by_cases hu0 : u = 0
    · subst hu0
      refine Br.tt ?_
      refine RetVC.one rfl ?_
      exact ⟨rfl, o0⟩
    · refine Br.dec (fun hc => absurd hc (by omega)) (fun c20 => ?_)
      refine DrawVC.intro [0, 1, 3, 4, 5, 6, 7, 8, 9, 10] [] [2] [0, 1, 3, 4, 5, 6, 7, 8, 2, 9, 10] mixed (by kernel_rfl) rfl (fun _ _ _ _ h => h) ?_
      refine StillVC.quoE rfl rfl (by omega) (by omega) (by simp [IntKind.max, IntKind.signed, IntKind.bits]; omega) ?_
      refine StillVC.remE rfl rfl (by omega) (by omega) ?_
      refine StillVC.remE rfl rfl (by omega) (by omega) ?_
      refine Ar.i64 (by omega) (by omega) ?_
      refine StillVC.sliceS str9 rfl ⟨_, rfl⟩ ⟨_, rfl⟩ (by omega) (by omega) (by simp only [List.length_cons, List.length_nil, Nat.zero_add]; omega) ?_
      have key := ih (u / 10) (by omega) h (by omega)
      rw [Int.natCast_ediv] at key
      refine CallVC.ret key ?_
      rintro _ h1 ⟨rfl, o1⟩
      have hs := digs_len (u / 10) (by omega)
      refine StillVC.strAdd rfl rfl (by first | omega | (simp; omega)) ?_
      refine RetVC.one rfl ?_
      refine ⟨?_, o1⟩
      rw [digs_step (u := u) (by omega), ← digit_piece (u := u % 10) (by omega)]
      rfl

set_option maxRecDepth 100000 in
theorem decimal_spec (u : Nat) (h : Heap) (hu : u < 9223372036854775808) :
    SpecR Tryd.prog 32 [.int .i64 u] h fun r h' => r = .string ⟨⟨Lib.decDigits u⟩⟩ ∧ Own h [] h' := by
  refine Spec.enter Tryd.func32 rfl Tryd.ntmps32 (by kernel_rfl) ?_
  refine Br.dec (fun hc => absurd hc (by omega)) (fun c20 => ?_)
  refine DrawVC.intro [0, 1, 3, 4, 5, 6, 7, 8, 9, 10] [] [2] [0, 1, 3, 4, 5, 6, 7, 8, 2, 9, 10] mixed (by kernel_rfl) rfl (fun _ _ _ _ h => h) ?_
  refine StillVC.quoE rfl rfl (by omega) (by omega) (by simp [IntKind.max, IntKind.signed, IntKind.bits]; omega) ?_
  refine StillVC.remE rfl rfl (by omega) (by omega) ?_
  refine StillVC.remE rfl rfl (by omega) (by omega) ?_
  refine Ar.i64 (by omega) (by omega) ?_
  refine StillVC.sliceS str9 rfl ⟨_, rfl⟩ ⟨_, rfl⟩ (by omega) (by omega) (by simp only [List.length_cons, List.length_nil, Nat.zero_add]; omega) ?_
  have key := digits_spec (u / 10) h (by omega)
  rw [Int.natCast_ediv] at key
  refine CallVC.ret key ?_
  rintro _ h2 ⟨rfl, o2⟩
  have hs := digs_len (u / 10) (by omega)
  refine StillVC.strAdd rfl rfl (by first | omega | (simp; omega)) ?_
  refine RetVC.one rfl ?_
  refine ⟨?_, o2⟩
  have e : Lib.decDigits u = digs (u / 10) ++ [UInt8.ofNat (48 + u % 10)] := by
    by_cases h0 : u = 0
    · subst h0; rw [Lib.decDigits]; decide
    · rw [← digs_step (u := u) (by omega)]; simp [digs, h0]
  rw [e, ← digit_piece (u := u % 10) (by omega)]
  rfl

end Go.Proofs.YtihnelncimkegaaDoor
