/-
  Numbers read out of bytes, of chapter 45.
-/
import Derived.Test.YtihnelncimkegaaDoorStructs
import Derived.Test.YtihnelncimkegaaDoorFnSum
import Derived.Test.YtihnelncimkegaaDoorFnWrite
namespace Go.Proofs.YtihnelncimkegaaDoor
open Go

theorem unbe_take (l : List UInt8) (i : Nat) (c : UInt8) (hc : l[i]? = some c) : unbe (l.take (i + 1)) = unbe (l.take i) * 256 + c.toNat := by
  obtain ⟨hi, he⟩ := List.getElem?_eq_some_iff.1 hc
  rw [List.take_succ_eq_append_getElem hi, he, unbe_snoc]

theorem unbe_foldl (l : List UInt8) : ∀ n : Nat, n ≤ l.foldl (fun (n : Nat) (c : UInt8) => n * 256 + c.toNat) n := by
  induction l with
  | nil => intro n; exact Nat.le_refl _
  | cons c l ih => intro n; exact Nat.le_trans (by omega) (ih (n * 256 + c.toNat))

theorem unbe_le (l : List UInt8) (i : Nat) : unbe (l.take i) ≤ unbe l := by
  have := unbe_foldl (l.drop i) (unbe (l.take i))
  have e : (l.drop i).foldl (fun (n : Nat) (c : UInt8) => n * 256 + c.toNat) (unbe (l.take i)) = unbe l := by
    unfold unbe
    rw [← List.foldl_append, List.take_append_drop]
  rwa [e] at this

theorem or_byte (n c : Nat) (hn : n < 16777216) (hc : c < 256) : bits .or .i64 ((n : Int) * 256) (c : Int) = (n : Int) * 256 + c := by
  have e1 : (BitVec.ofInt 64 ((n : Int) * 256)).toNat = n * 256 := by
    rw [BitVec.toNat_ofInt]; omega
  have e2 : (BitVec.ofInt 64 (c : Int)).toNat = c := by
    rw [BitVec.toNat_ofInt]; omega
  have e3 : n * 256 ||| c = n * 256 + c := by
    have := Nat.shiftLeft_add_eq_or_of_lt (i := 8) (b := c) (by omega) n
    rw [Nat.shiftLeft_eq] at this
    exact this.symm
  have e4 : (BitVec.ofInt 64 ((n : Int) * 256) ||| BitVec.ofInt 64 (c : Int)).toNat = n * 256 + c := by rw [BitVec.toNat_or, e1, e2, e3]
  have e5 : IntKind.i64.bits = 64 := rfl
  show IntKind.i64.wrap ((BitVec.ofInt 64 ((n : Int) * 256) ||| BitVec.ofInt 64 (c : Int)).toNat : Int) = _
  rw [e4]
  simp only [IntKind.wrap, IntKind.bits, IntKind.signed]
  simp
  omega

theorem read_spec (l : List UInt8) (v : Value) (h : Heap) (a0 : Arr h v (bytes l)) (hl : l.length ≤ 1000) :
    SpecR Tryd.prog 26 [v] h fun r h' => r = .tuple ⟨[.int .i64 (if unbe l < 4294967296 then unbe l else 0 : Nat), .bool (decide (unbe l < 4294967296))]⟩ ∧ Own h [] h' := by
  refine Spec.enter Tryd.func26 rfl Tryd.ntmps26 (by kernel_rfl) ?_
  have ln : (bytes l).length = l.length := by simp
  refine StillVC.run (StillVC.lenAn a0 (by assumption) sl35 ?_)
  refine LoopVC.intro [2, 3, 4, 6, 9, 10, 11, 12, 13, 14, 15, 16, 17, 18, 19, 20] [4, 9] (fun vs h1 => ∃ (i : Nat), i ≤ l.length ∧ vs = [.int .i64 (unbe (l.take i) : Nat), .int .i64 i] ∧ unbe (l.take i) < 4294967296 ∧ h1 = h) (fun vs _ => match vs with | [_, .int _ i] => l.length - i.toNat | _ => 0) ?_ ?_
  · exact ⟨0, by omega, rfl, by rw [List.take_zero]; decide, rfl⟩
  · rintro vs junk h1 ⟨i, hi, rfl, hn, rfl⟩
    by_cases hlt : i < l.length
    · obtain ⟨c, hc⟩ := getx hlt
      have hc8 := u8_lt c
      have sn := unbe_take l i c hc
      have hm := unbe_le l (i + 1)
      generalize unbe (l.take i) = x at *
      by_cases hx : x < 16777216
      · have hor := or_byte x c.toNat hx (by omega)
        refine Br.dec (fun c20 => ?_) (fun hc => absurd (by omega) hc)
        refine StillVC.run (StillVC.idx sl35 ty5 a0 rfl (by omega) (by omega) ?_)
        refine StillVC.run (StillVC.loadM a0 ty5 rfl (by first | assumption | rfl) ?_)
        refine Br.dec (fun hc => absurd hc (by omega)) (fun c23 => ?_)
        refine StillVC.run (StillVC.shl rfl rfl (by omega) ?_)
        rw [show (2 : Int) ^ min (Int.toNat 8) IntKind.i64.bits = 256 by decide]
        refine Ar.i64 (by omega) (by omega) ?_
        refine StillVC.run (StillVC.convI rfl int5 int3 ?_)
        refine Ar.i64 (by omega) (by omega) ?_
        refine StillVC.run (StillVC.bit rfl rfl rfl ?_)
        refine Ar.i64 (by omega) (by omega) ?_
        refine ⟨rfl, ?_⟩
        rw [hor]
        exact ⟨⟨i + 1, by omega, by rw [sn]; simp, by omega, rfl⟩, by simp; omega⟩
      · refine Br.dec (fun c40 => ?_) (fun hc => absurd (by omega) hc)
        refine StillVC.run (StillVC.idx sl35 ty5 a0 rfl (by omega) (by omega) ?_)
        refine StillVC.run (StillVC.loadM a0 ty5 rfl (by first | assumption | rfl) ?_)
        refine Br.dec (fun c43 => ?_) (fun hc => absurd (by omega) hc)
        refine RetVC.two rfl ?_
        refine ⟨?_, .refl _⟩
        rw [if_neg (by omega), decide_eq_false (by omega)]; rfl
    · obtain rfl : i = l.length := by omega
      rw [List.take_length] at hn ⊢
      refine Br.dec (fun hc => absurd hc (by omega)) (fun c50 => ?_)
      refine RetVC.two rfl ?_
      refine ⟨?_, .refl _⟩
      rw [if_pos hn, decide_eq_true hn]

end Go.Proofs.YtihnelncimkegaaDoor
