/-
  Numerals and joins: the library's contracts as this proof's specifications, and the reference's own numerals. The sums of chapter 45; numbers in bytes. Numbers in bytes, written and read, of chapter 45. Numbers read out of bytes, of chapter 45. Put of chapter 45, the program's and the reference's. Put of the reference, and Get, of chapter 45. Texts of chapter 45: cuts, comparisons, the reference's numerals. The regions of chapter 45's iterator that call yield. The parts of a text: the iterator of chapter 45 hands them over one by one. A walk of a round's body: the small program logic in a round's frame. Split of chapter 45. Join of chapter 45, and the reference's Split and Join.
-/
import Derived.Test.YtfjajkgfgigodaaGreatDoorStructs
import Derived.Test.YtfjajkgfgigodaaGreatDoorMPl
import Derived.Test.YtfjajkgfgigodaaGreatDoorShelf
import Derived.RangeFuncFrom
import Derived.Shelf.Abstract
import Derived.Test.YtfjajkgfgigodaaGreatDoorDec
import Derived.Lib.IndexLaws
/- Numerals and joins: the library's contracts as this proof's specifications, and the reference's own numerals. -/
namespace Go.Proofs.YtfjajkgfgigodaaGreatDoor
open Go


/-- The library's table of powers of ten lies in this heap. -/
def TabH (h : Heap) : Prop := ∀ w : World, w.heap = h → Lib.TabIs Tryz.prog w "internal/strconv.uint64pow10" .u64 Lib.pow10Tab

theorem TabH.ext {h h' : Heap} (t : TabH h) (e : Ext h h') : TabH h' := by
  intro w hw
  have := t { w with heap := h } rfl
  unfold Lib.TabIs World.var? at this ⊢
  cases hg : Tryz.prog.globalNamed "internal/strconv.uint64pow10" with
  | none => rw [hg] at this; simp at this
  | some g =>
    rw [hg] at this
    simp only [Option.bind_some] at this ⊢
    rw [hw]
    by_cases hb : g < h.size
    · rw [e.old g hb]; exact this
    · have hn : h[g]? = none := Array.getElem?_eq_none (by omega)
      rw [hn] at this; simp at this

theorem itoa_spec (n : Int) (h : Heap) (h0 : -9223372036854775808 ≤ n) (h1 : n ≤ 9223372036854775807) (ht : TabH h) :
    SpecR Tryz.prog 115 [.int .i64 n] h fun r h' => r = .string ⟨⟨Lib.itoa n⟩⟩ ∧ Own h [] h' := by
  refine ⟨⟨_, Tryz.func115, rfl, by kernel_rfl⟩, fun w hw => ?_⟩
  refine (Tryz.strconv_Itoa n h0 h1 w (ht w hw)).mono ?_
  rintro e w' ⟨rfl, k, os, rfl⟩
  refine ⟨⟨rfl, rfl, rfl, by simp [Sort.grow, World.drewN]⟩, rfl, Own.of_ext ⟨?_, fun b hb => ?_⟩⟩
  · subst hw
    simp [Sort.grow, World.drewN]
  · subst hw
    simp [Sort.grow, World.drewN, Array.getElem?_append, hb]

theorem join_spec (ss : List (List UInt8)) (sep : List UInt8) (v : Value) (h : Heap) (a0 : Arr h v (strs ss)) (hl : ss.length ≤ 1000000000) (hj : (Lib.join ss sep).length ≤ 140737488355328) :
    SpecR Tryz.prog 83 [v, .string ⟨⟨sep⟩⟩] h fun r h' => r = .string ⟨⟨Lib.join ss sep⟩⟩ ∧ Own h [] h' := by
  refine ⟨⟨_, Tryz.func83, rfl, by kernel_rfl⟩, fun w hw => ?_⟩
  subst hw
  obtain ⟨a, c, rfl, hc, hr⟩ := a0
  have ln : (strs ss).length = ss.length := by simp
  rcases hr with hr | ⟨b, o, rfl, hr⟩
  · have : ss = [] := by simpa using hr
    subst this
    refine (Tryz.strings_Join_none a c ⟨⟨sep⟩⟩ w).mono ?_
    rintro e w' ⟨rfl, rfl⟩
    exact ⟨.refl _, rfl, Own.refl _⟩
  · by_cases hs : ss = []
    · subst hs
      refine (Tryz.strings_Join_none _ c ⟨⟨sep⟩⟩ w).mono ?_
      rintro e w' ⟨rfl, rfl⟩
      exact ⟨.refl _, rfl, Own.refl _⟩
    · have hpos : 0 < ss.length := List.length_pos_iff.2 hs
      have hm : (ss.map fun s => (⟨⟨s⟩⟩ : ByteArray)).map (fun x => x.data.toList) = ss := by
        rw [List.map_map]
        exact List.map_id ss
      have hx : ((ss.map fun s => (⟨⟨s⟩⟩ : ByteArray))).length = ss.length := by simp
      have key := Tryz.strings_Join b o c (ss.map fun s => (⟨⟨s⟩⟩ : ByteArray)) ⟨⟨sep⟩⟩ w (fun j x hj => by
          rw [cellAt_eq]
          rw [List.getElem?_map, Option.map_eq_some_iff] at hj
          obtain ⟨s, hs1, rfl⟩ := hj
          have hlt : j < ss.length := (List.getElem?_eq_some_iff.1 hs1).1
          rw [hr j (by rw [ln]; exact hlt)]
          simp [hs1])
        (by
          have := hr 0 (by rw [ln]; exact hpos)
          have e0 : (strs ss)[0]? = some (strs ss)[0] := by simp [hpos]
          rw [e0] at this
          exact cellAt_lt this) (by simp; omega) (by rw [hx]; omega) (by rw [hm]; exact hj)
      rw [hm, hx, ← ln] at key
      refine key.mono ?_
      rintro e w' ⟨rfl, hb⟩
      exact ⟨⟨hb.os, hb.tape, hb.output, hb.size⟩, rfl, Own.of_ext ⟨hb.size, hb.block⟩⟩

end Go.Proofs.YtfjajkgfgigodaaGreatDoor

/- The sums of chapter 45; numbers in bytes. -/
namespace Go.Proofs.YtfjajkgfgigodaaGreatDoor
open Go

theorem sum_spec (l : List UInt8) (h : Heap) (hl : l.length ≤ 140737488351232) :
    SpecR Tryz.prog 108 [.string ⟨⟨l⟩⟩] h fun v h' => v = .int .i64 (sumL l) ∧ Own h [] h' := by
  refine Spec.enter Tryz.func108 rfl Tryz.ntmps108 (by kernel_rfl) ?_
  refine StillVC.run (StillVC.lenS rfl str9 ?_)
  refine LoopVC.intro [3, 4, 7, 8, 9, 10, 11, 12, 13, 14, 15, 16, 17, 18, 19] [3, 7] (fun vs h1 => ∃ (i : Nat), i ≤ l.length ∧ vs = [.int .i64 (sumL (l.take i)), .int .i64 i] ∧ h1 = h) (fun vs _ => match vs with | [_, .int _ i] => l.length - i.toNat | _ => 0) ?_ ?_
  · exact ⟨0, by omega, rfl, rfl⟩
  · rintro vs junk h1 ⟨i, hi, rfl, rfl⟩
    have r := sumL_range (l.take i)
    by_cases hlt : i < l.length
    · obtain ⟨c, hc⟩ := getx hlt
      have hc8 := u8_lt c
      have sn := sumL_snoc l i c hc
      generalize sumL (l.take i) = x at *
      refine Br.dec (fun c20 => ?_) (fun hc => absurd (by omega) hc)
      refine Ar.i64 (by omega) (by omega) ?_
      refine StillVC.run (StillVC.strIdx rfl rfl str9 (by omega) (by assumption) ?_)
      refine StillVC.run (StillVC.convI rfl int5 int3 ?_)
      refine Ar.i64 (by omega) (by omega) ?_
      refine Ar.i64 (by omega) (by omega) ?_
      refine Ar.i64 (by omega) (by omega) ?_
      refine StillVC.run (StillVC.remE rfl rfl (by omega) (by omega) ?_)
      refine Ar.i64 (by omega) (by omega) ?_
      refine ⟨rfl, ?_⟩
      exact ⟨⟨i + 1, by omega, by rw [sn]; rfl, rfl⟩, by simp; omega⟩
    · obtain rfl : i = l.length := by omega
      rw [List.take_length]
      refine Br.dec (fun hc => absurd hc (by omega)) (fun c30 => ?_)
      refine RetVC.one rfl ?_
      exact ⟨rfl, .refl _⟩

theorem refSum_spec (l : List UInt8) (h : Heap) (hl : l.length ≤ 140737488351232) :
    SpecR Tryz.prog 119 [.string ⟨⟨l⟩⟩] h fun v h' => v = .int .i64 (sumL l) ∧ Own h [] h' := by
  refine Spec.enter Tryz.func119 rfl Tryz.ntmps119 (by kernel_rfl) ?_
  refine LoopVC.intro [3, 4, 5, 6, 7, 8, 9, 10, 11, 12, 13, 14, 15, 16, 17, 18, 19] [3, 4] (fun vs h1 => ∃ (i : Nat), i ≤ l.length ∧ vs = [.int .i64 (sumL (l.take i)), .int .i64 i] ∧ h1 = h) (fun vs _ => match vs with | [_, .int _ i] => l.length - i.toNat | _ => 0) ?_ ?_
  · exact ⟨0, by omega, rfl, rfl⟩
  · rintro vs junk h1 ⟨i, hi, rfl, rfl⟩
    have r := sumL_range (l.take i)
    by_cases hlt : i < l.length
    · obtain ⟨c, hc⟩ := getx hlt
      have hc8 := u8_lt c
      have sn := sumL_snoc l i c hc
      generalize sumL (l.take i) = x at *
      refine StillVC.run (StillVC.lenS rfl str9 ?_)
      refine Br.dec (fun c21 => ?_) (fun hc => absurd (by omega) hc)
      refine Ar.i64 (by omega) (by omega) ?_
      refine StillVC.run (StillVC.strIdx rfl rfl str9 (by omega) (by assumption) ?_)
      refine StillVC.run (StillVC.convI rfl int5 int3 ?_)
      refine Ar.i64 (by omega) (by omega) ?_
      refine Ar.i64 (by omega) (by omega) ?_
      refine Ar.i64 (by omega) (by omega) ?_
      refine StillVC.run (StillVC.remE rfl rfl (by omega) (by omega) ?_)
      refine Ar.i64 (by omega) (by omega) ?_
      refine ⟨rfl, ?_⟩
      exact ⟨⟨i + 1, by omega, by rw [sn]; rfl, rfl⟩, by simp; omega⟩
    · obtain rfl : i = l.length := by omega
      rw [List.take_length]
      refine StillVC.run (StillVC.lenS rfl str9 ?_)
      refine Br.dec (fun hc => absurd hc (by omega)) (fun c31 => ?_)
      refine RetVC.one rfl ?_
      exact ⟨rfl, .refl _⟩

theorem placed_spec (e p : Int) (h : Heap) : SpecR Tryz.prog 79 [.int .i64 e, .int .i64 p] h fun v h' => v = .bool (placedB e p) ∧ Own h [] h' := by
  refine Spec.enter Tryz.func79 rfl Tryz.ntmps79 (by kernel_rfl) ?_
  by_cases h1 : 0 ≤ e
  · by_cases h2 : e ≤ 1000000000
    · by_cases h3 : 0 ≤ p
      · refine Br.dec (fun c10 => ?_) (fun hc => absurd (by omega) hc)
        refine Br.dec (fun c11 => ?_) (fun hc => absurd (by omega) hc)
        refine Br.dec (fun c12 => ?_) (fun hc => absurd (by omega) hc)
        refine RetVC.one rfl ?_
        exact ⟨by simp [placedB, h1, h2, h3], .refl _⟩
      · refine Br.dec (fun c20 => ?_) (fun hc => absurd (by omega) hc)
        refine Br.dec (fun c21 => ?_) (fun hc => absurd (by omega) hc)
        refine Br.dec (fun hc => absurd hc (by omega)) (fun c22 => ?_)
        refine RetVC.one rfl ?_
        exact ⟨by simp [placedB, h1, h2, h3], .refl _⟩
    · refine Br.dec (fun c30 => ?_) (fun hc => absurd (by omega) hc)
      refine Br.dec (fun hc => absurd hc (by omega)) (fun c31 => ?_)
      refine RetVC.one rfl ?_
      exact ⟨by simp [placedB, h1, h2], .refl _⟩
  · refine Br.dec (fun hc => absurd hc (by omega)) (fun c40 => ?_)
    refine RetVC.one rfl ?_
    exact ⟨by simp [placedB, h1], .refl _⟩

theorem refPlaced_spec (e p : Int) (h : Heap) : SpecR Tryz.prog 96 [.int .i64 e, .int .i64 p] h fun v h' => v = .bool (placedB e p) ∧ Own h [] h' := by
  refine Spec.enter Tryz.func96 rfl Tryz.ntmps96 (by kernel_rfl) ?_
  by_cases h1 : 0 ≤ e
  · by_cases h2 : e ≤ 1000000000
    · by_cases h3 : 0 ≤ p
      · refine Br.dec (fun c10 => ?_) (fun hc => absurd (by omega) hc)
        refine Br.dec (fun c11 => ?_) (fun hc => absurd (by omega) hc)
        refine Br.dec (fun c12 => ?_) (fun hc => absurd (by omega) hc)
        refine RetVC.one rfl ?_
        exact ⟨by simp [placedB, h1, h2, h3], .refl _⟩
      · refine Br.dec (fun c20 => ?_) (fun hc => absurd (by omega) hc)
        refine Br.dec (fun c21 => ?_) (fun hc => absurd (by omega) hc)
        refine Br.dec (fun hc => absurd hc (by omega)) (fun c22 => ?_)
        refine RetVC.one rfl ?_
        exact ⟨by simp [placedB, h1, h2, h3], .refl _⟩
    · refine Br.dec (fun c30 => ?_) (fun hc => absurd (by omega) hc)
      refine Br.dec (fun hc => absurd hc (by omega)) (fun c31 => ?_)
      refine RetVC.one rfl ?_
      exact ⟨by simp [placedB, h1, h2], .refl _⟩
  · refine Br.dec (fun hc => absurd hc (by omega)) (fun c40 => ?_)
    refine RetVC.one rfl ?_
    exact ⟨by simp [placedB, h1], .refl _⟩

/- NUMBERS IN BYTES, THE MOST SIGNIFICANT FIRST -/

end Go.Proofs.YtfjajkgfgigodaaGreatDoor

/- Numbers in bytes, written and read, of chapter 45. -/
namespace Go.Proofs.YtfjajkgfgigodaaGreatDoor
open Go

def fieldV (f : Nat × Nat) : List Value := [.int .i64 (f.1 : Int), .int .i64 (f.2 : Int)]

set_option maxHeartbeats 1600000 in
theorem write_spec (B : Base) (v : Value) (n : Nat) (xs : List Value) (b : Nat) (fs : List (Nat × Nat)) (h : Heap) (o : Own B [row v 5 1 n xs, box b (fs.flatMap fieldV) 132] h)
    (hfs : ∀ f ∈ fs, f.1 < 9223372036854775808 ∧ f.2 ≤ 8) (hfl : fs.length ≤ 10) (hn : n ≤ 1000000) :
    SpecR Tryz.prog 107 [v, .slice (some ⟨b, 0, none⟩) fs.length fs.length] h fun r h' => Own B [row r 5 1 (n + (fieldsB fs).length) (xs ++ bytes (fieldsB fs)), box b (fs.flatMap fieldV) 132] h' := by
  refine Spec.enter Tryz.func107 rfl Tryz.ntmps107 (by kernel_rfl) ?_
  have hlen : (fs.flatMap fieldV).length = fs.length * 2 := flat_length (f := fieldV) (sz := 2) (fun _ => rfl) fs
  refine StillVC.run (StillVC.lenV rfl sl145 ?_)
  refine LoopVC.intro [0, 6, 7, 10, 11, 12, 13, 14, 15, 16, 17, 18, 19, 20, 21, 22, 23, 24, 25, 26, 27, 28, 29, 30] [0, 10] (fun vs h1 => ∃ (j : Nat) (w : Value), j ≤ fs.length ∧ vs = [w, .int .i64 j] ∧ Own B [row w 5 1 (n + (fieldsB (fs.take j)).length) (xs ++ bytes (fieldsB (fs.take j))), box b (fs.flatMap fieldV) 132] h1) (fun vs _ => match vs with | [_, .int _ i] => fs.length - i.toNat | _ => 0) ?_ ?_
  · exact ⟨0, v, by omega, rfl, by simpa [fieldsB] using o⟩
  · clear o
    rintro vs junk h1 ⟨j, w, hj, rfl, o1⟩
    by_cases hlt : j < fs.length
    · obtain ⟨f, hf⟩ := getx hlt
      obtain ⟨hf1, hf2⟩ := hfs f (List.mem_of_getElem? hf)
      have sn := fieldsB_snoc hf
      have hl1 := fieldsB_len (fs := fs.take j) (fun g hg => (hfs g (List.mem_of_mem_take hg)).2)
      have hl2 : (fs.take j).length ≤ 10 := by simp; omega
      refine Br.dec (fun c20 => ?_) (fun hc => absurd (by omega) hc)
      refine StillVC.run (StillVC.idxN sl145 ty132 (o1.boxArrN 1 rfl (by assumption) (by omega)) rfl (by omega) (by omega) ?_)
      refine StillVC.run (StillVC.loadF (o1.boxArrN 1 rfl (by assumption) (by omega)) ty132 (fun _ => rfl) (by decide) rfl (by assumption) ?_)
      (refine RunVC.alloc o1 ty132 ?_; intro b23 m23 o23)
      (refine RunVC.storeL o23 2 rfl ty132 rfl (by decide) (And.intro ⟨rfl, rfl⟩ ?_); intro m24 o24)
      refine StillVC.run (StillVC.fieldAddr st132 rfl rfl rfl ?_)
      refine StillVC.run (StillVC.loadO o24 2 rfl ty3 rfl rfl ?_)
      refine Ar.i64 (by omega) (by omega) ?_
      refine LoopVC.intro [0, 7, 17, 18, 19, 20, 21, 22, 23, 24, 25, 26, 27, 28, 29] [0, 7] (fun vs h1 => ∃ (c : Nat) (w : Value), c ≤ f.2 ∧ vs = [w, .int .i64 ((f.2 : Int) - 1 - c)] ∧ Own B [row w 5 1 (n + (fieldsB (fs.take j)).length + c) (xs ++ bytes (fieldsB (fs.take j)) ++ bytes ((be f.2 f.1).take c)), box b (fs.flatMap fieldV) 132, box b23 [Value.int IntKind.i64 ↑f.1, Value.int IntKind.i64 ↑f.2] 132] h1) (fun vs _ => match vs with | [_, .int _ i] => (i + 1).toNat | _ => 0) ?_ ?_
      · exact ⟨0, w, by omega, by simp, by simpa using o24⟩
      · clear o24 o23 o1
        rintro vs junk h2 ⟨c, w2, hc, rfl, o2⟩
        by_cases hlt2 : c < f.2
        · have hb := shr_byte f.1 f.2 c hf2 hlt2
          have hg := be_get (n := f.1) hlt2
          refine Br.dec (fun c30 => ?_) (fun hc => absurd (by omega) hc)
          refine StillVC.run (StillVC.fieldAddr st132 rfl rfl rfl ?_)
          refine StillVC.run (StillVC.loadO o2 2 rfl ty3 rfl rfl ?_)
          refine Ar.i64 (by omega) (by omega) ?_
          refine StillVC.run (StillVC.shr rfl rfl (by omega) ?_)
          refine StillVC.run (StillVC.convI rfl int3 int5 ?_)
          refine Ar.u8w ?_
          (refine RunVC.lit o2 sl59 ty5 rfl rfl (by decide) (And.intro rfl ?_); intro b35 m35 o35)
          (refine RunVC.append o35 0 rfl sl59 ty5 (by decide) (o35.boxArr 3 rfl (by simp) (by simp)).toN (by simp [Value.oneCell']) (by simp only [maxLen]; first | omega | (simp; omega)) (by first | omega | (simp; omega)) ?_; intro v36 m36 o36)
          refine Ar.i64 (by omega) (by omega) ?_
          refine ⟨rfl, ?_⟩
          rw [hb] at o36
          have e : bytes ((be f.2 f.1).take (c + 1)) = bytes ((be f.2 f.1).take c) ++ [Value.int .u8 ((byteOf (f.1 / 256 ^ (f.2 - 1 - c))).toNat : Int)] := by
            rw [List.take_add_one, hg, bytes_append]; rfl
          refine ⟨⟨c + 1, v36, by omega, ?_, ?_⟩, by simp; omega⟩
          · have : (f.2 : Int) - 1 - c - 1 = (f.2 : Int) - 1 - ((c + 1 : Nat) : Int) := by omega
            rw [this]
          · rw [e, ← List.append_assoc]
            exact o36.sel [0, 1, 2] rfl
        · obtain rfl : c = f.2 := by omega
          rw [List.take_of_length_le (Nat.le_of_eq (be_length _ _))] at o2
          refine Br.dec (fun hc => absurd hc (by omega)) (fun c40 => ?_)
          refine Ar.i64 (by omega) (by omega) ?_
          refine ⟨rfl, ?_⟩
          refine ⟨⟨j + 1, w2, by omega, rfl, ?_⟩, by simp; omega⟩
          have e1 : n + (fieldsB (fs.take (j + 1))).length = n + (fieldsB (fs.take j)).length + f.2 := by rw [sn, List.length_append, be_length]; omega
          rw [e1, sn, bytes_append, ← List.append_assoc]
          exact o2.sel [0, 1] rfl
    · obtain rfl : j = fs.length := by omega
      rw [List.take_length] at o1
      refine Br.dec (fun hc => absurd hc (by omega)) (fun c50 => ?_)
      refine RetVC.one rfl ?_
      exact o1

end Go.Proofs.YtfjajkgfgigodaaGreatDoor

/- Numbers read out of bytes, of chapter 45. -/
namespace Go.Proofs.YtfjajkgfgigodaaGreatDoor
open Go

theorem read_spec (l : List UInt8) (v : Value) (h : Heap) (a0 : Arr h v (bytes l)) (hl : l.length ≤ 1000) :
    SpecR Tryz.prog 80 [v] h fun r h' => r = .tuple ⟨[.int .i64 (if unbe l < 4294967296 then unbe l else 0 : Nat), .bool (decide (unbe l < 4294967296))]⟩ ∧ Own h [] h' := by
  refine Spec.enter Tryz.func80 rfl Tryz.ntmps80 (by kernel_rfl) ?_
  have ln : (bytes l).length = l.length := by simp
  refine StillVC.run (StillVC.lenAn a0 (by assumption) sl59 ?_)
  refine LoopVC.intro [2, 3, 4, 6, 9, 10, 11, 12, 13, 14, 15, 16, 17, 18, 19, 20] [4, 9] (fun vs h1 => ∃ (i : Nat), i ≤ l.length ∧ vs = [.int .i64 (unbe (l.take i) : Nat), .int .i64 i] ∧ unbe (l.take i) < 4294967296 ∧ h1 = h) (fun vs _ => match vs with | [_, .int _ i] => l.length - i.toNat | _ => 0) ?_ ?_
  · exact ⟨0, by omega, rfl, by rw [List.take_zero]; decide, rfl⟩
  · rintro vs junk h1 ⟨i, hi, rfl, hn, rfl⟩
    by_cases hlt : i < l.length
    · obtain ⟨c, hc⟩ := getx hlt
      have hc8 := u8_lt c
      have sn := unbe_take l i c hc
      have hm := unbe_le l (i + 1)
      generalize unbe (l.take i) = x at *
      by_cases hx : x < 16777216
      · have hor := or_byte x c.toNat hx (by omega)
        refine Br.dec (fun c20 => ?_) (fun hc => absurd (by omega) hc)
        refine StillVC.run (StillVC.idx sl59 ty5 a0 rfl (by omega) (by omega) ?_)
        refine StillVC.run (StillVC.loadM a0 ty5 rfl (by first | assumption | rfl) ?_)
        refine Br.dec (fun hc => absurd hc (by omega)) (fun c23 => ?_)
        refine StillVC.run (StillVC.shl rfl rfl (by omega) ?_)
        rw [show (2 : Int) ^ min (Int.toNat 8) IntKind.i64.bits = 256 by decide]
        refine Ar.i64 (by omega) (by omega) ?_
        refine StillVC.run (StillVC.convI rfl int5 int3 ?_)
        refine Ar.i64 (by omega) (by omega) ?_
        refine StillVC.run (StillVC.bit rfl rfl rfl ?_)
        refine Ar.i64 (by omega) (by omega) ?_
        refine ⟨rfl, ?_⟩
        rw [hor]
        exact ⟨⟨i + 1, by omega, by rw [sn]; simp, by omega, rfl⟩, by simp; omega⟩
      · refine Br.dec (fun c40 => ?_) (fun hc => absurd (by omega) hc)
        refine StillVC.run (StillVC.idx sl59 ty5 a0 rfl (by omega) (by omega) ?_)
        refine StillVC.run (StillVC.loadM a0 ty5 rfl (by first | assumption | rfl) ?_)
        refine Br.dec (fun c43 => ?_) (fun hc => absurd (by omega) hc)
        refine RetVC.two rfl ?_
        refine ⟨?_, .refl _⟩
        rw [if_neg (by omega), decide_eq_false (by omega)]; rfl
    · obtain rfl : i = l.length := by omega
      rw [List.take_length] at hn ⊢
      refine Br.dec (fun hc => absurd hc (by omega)) (fun c50 => ?_)
      refine RetVC.two rfl ?_
      refine ⟨?_, .refl _⟩
      rw [if_pos hn, decide_eq_true hn]

end Go.Proofs.YtfjajkgfgigodaaGreatDoor

/- Put of chapter 45, the program's and the reference's. -/
namespace Go.Proofs.YtfjajkgfgigodaaGreatDoor
open Go

theorem bytes_zero (n : Nat) : List.replicate n (Value.int .u8 0) = bytes (List.replicate n 0) := by simp

set_option maxHeartbeats 1600000 in
theorem put_spec (e p : Int) (body : List UInt8) (h : Heap) (hb : body.length ≤ 140737488351232) :
    SpecR Tryz.prog 81 [.int .i64 e, .int .i64 p, .string ⟨⟨body⟩⟩] h fun r h' => r = .tuple ⟨[.string ⟨⟨(putR e p body).1⟩⟩, .int .i64 (putR e p body).2]⟩ ∧ Own h [] h' := by
  refine Spec.enter Tryz.func81 rfl Tryz.ntmps81 (by kernel_rfl) ?_
  have o0 := Own.refl h
  refine CallVC.ret (placed_spec e p h) ?_
  rintro _ h1 ⟨rfl, oc⟩
  have o1 := o0.ext' oc
  clear o0 oc
  cases hp : placedB e p with
  | false =>
    refine Br.tt ?_
    refine RetVC.two rfl ?_
    exact ⟨by simp [putR, hp], o1⟩
  | true =>
    by_cases hl : body.length ≤ 40
    · have hR : putR e p body = (putL e.toNat p.toNat body, 0) := by simp [putR, hp, hl]
      rw [hR]
      have hpl := placedB_spec hp
      obtain ⟨en, rfl⟩ : ∃ en : Nat, e = en := ⟨e.toNat, by omega⟩
      obtain ⟨pn, rfl⟩ : ∃ pn : Nat, p = pn := ⟨p.toNat, by omega⟩
      simp only [Int.toNat_natCast]
      refine Br.ff ?_
      refine StillVC.run (StillVC.lenS rfl str9 ?_)
      refine Br.dec (fun hc => absurd hc (by omega)) (fun c31 => ?_)
      (refine RunVC.make0 o1 sl59 ty5 rfl rfl (by omega) (by omega) (by omega) ?_; intro v32 m32 o32)
      refine StillVC.run (StillVC.buildK st132 ?_)
      refine And.intro rfl ?_
      refine And.intro rfl ?_
      refine StillVC.run (StillVC.buildK st132 ?_)
      refine And.intro rfl ?_
      refine And.intro rfl ?_
      refine StillVC.run (StillVC.lenS rfl str9 ?_)
      refine StillVC.run (StillVC.buildK st132 ?_)
      refine And.intro rfl ?_
      refine And.intro rfl ?_
      (refine RunVC.litN o32 sl145 ty132 rfl rfl (by decide) ?_)
      refine And.intro rfl ?_
      refine And.intro rfl ?_
      refine And.intro rfl ?_
      intro b38 m38 o38
      refine CallVC.ret (write_spec h _ _ _ _ [(en, 8), (pn, 4), (body.length, 4)] _ o38 ?_ (by simp) (by omega)) ?_
      · simp; omega
      intro w2 h2 oc
      have e1 : [] ++ bytes (fieldsB [(en, 8), (pn, 4), (body.length, 4)]) = bytes (be 8 en ++ be 4 pn ++ be 4 body.length) := by
        simp [fieldsB]
      have n1 : 0 + (fieldsB [(en, 8), (pn, 4), (body.length, 4)]).length = 16 := by simp [fieldsB, be_length]
      rw [e1, n1] at oc
      have o2 : Own h [row w2 5 1 16 (bytes (be 8 en ++ be 4 pn ++ be 4 body.length))] h2 := oc.sel [0] rfl
      clear o1 oc
      (refine RunVC.appendS o2 0 rfl sl59 str9 u8_5 rfl (by simp only [maxLen]; first | omega | (simp; omega)) (by first | omega | (simp; omega)) ?_; intro v50 m50 o50)
      refine StillVC.run (StillVC.lenN (o50.rowArrN 0 rfl) sl59 ?_)
      refine Ar.i64 (by omega) (by omega) ?_
      (refine RunVC.appendZ o50 0 rfl sl59 int3 ty5 rfl rfl (by omega) (by simp only [maxLen]; first | omega | (simp; omega)) (by first | omega | (simp; omega)) ?_; intro v52 m52 o52)
      have e2 : bytes (be 8 en ++ be 4 pn ++ be 4 body.length) ++ bytes body ++ List.replicate ((56 : Int) - ((16 + body.length : Nat) : Int)).toNat (Value.int .u8 0) = bytes (preL en pn body) := by
        rw [show ((56 : Int) - ((16 + body.length : Nat) : Int)).toNat = 40 - body.length by omega, bytes_zero, ← bytes_append, ← bytes_append]; rfl
      have e3 : 16 + body.length + ((56 : Int) - ((16 + body.length : Nat) : Int)).toNat = 56 := by omega
      rw [e2, e3] at o52
      clear o2 o50
      have hpl2 := preL_length (e := en) (p := pn) hl
      have hsr := sumL_range (preL en pn body)
      refine StillVC.run (StillVC.bytesStr (o52.rowArr 0 rfl) sl59 int5 str9 ?_)
      refine CallVC.ret (sum_spec _ _ (by omega)) ?_
      rintro _ h3 ⟨rfl, oc⟩
      have o3 := o52.ext' oc
      clear o52
      obtain ⟨sn, hsn⟩ : ∃ sn : Nat, sumL (preL en pn body) = sn := ⟨(sumL (preL en pn body)).toNat, by omega⟩
      rw [hsn] at hsr ⊢
      refine StillVC.run (StillVC.buildK st132 ?_)
      refine And.intro rfl ?_
      refine And.intro rfl ?_
      (refine RunVC.litN o3 sl145 ty132 rfl rfl (by decide) ?_)
      refine And.intro rfl ?_
      intro b72 m72 o72
      refine CallVC.ret (write_spec h _ _ _ _ [(sn, 8)] _ o72 (by simp; omega) (by simp) (by omega)) ?_
      intro w4 h4 oc
      have e4 : bytes (preL en pn body) ++ bytes (fieldsB [(sn, 8)]) = bytes (putL en pn body) := by
        rw [← bytes_append]; simp [fieldsB, putL, hsn]
      rw [e4] at oc
      refine StillVC.run (StillVC.bytesStr (oc.rowArr 0 rfl) sl59 int5 str9 ?_)
      refine RetVC.two rfl ?_
      exact ⟨rfl, oc.sel [] rfl⟩
    · refine Br.ff ?_
      refine StillVC.run (StillVC.lenS rfl str9 ?_)
      refine Br.dec (fun c41 => ?_) (fun hc => absurd (by omega) hc)
      refine RetVC.two rfl ?_
      exact ⟨by simp [putR, hp, hl], o1⟩

/- THE REFERENCE -/

theorem number_spec (n k : Nat) (h : Heap) (hn : n < 9223372036854775808) (hk : k ≤ 8) :
    SpecR Tryz.prog 118 [.int .i64 n, .int .i64 k] h fun r h' => r = .string ⟨⟨be k n⟩⟩ ∧ Own h [] h' := by
  refine Spec.enter Tryz.func118 rfl Tryz.ntmps118 (by kernel_rfl) ?_
  have o0 := Own.refl h
  refine LoopVC.intro [0, 5, 6, 7, 8, 9, 10, 11, 12, 13, 14, 15, 16, 17, 18, 19, 20] [0, 5, 6] (fun vs h1 => ∃ (i : Nat), i ≤ k ∧ vs = [.int .i64 ((n / 256 ^ i : Nat) : Int), .string ⟨⟨be i n⟩⟩, .int .i64 i] ∧ Own h [] h1) (fun vs _ => match vs with | [_, _, .int _ i] => k - i.toNat | _ => 0) ?_ ?_
  · exact ⟨0, by omega, by simp [be], o0⟩
  · clear o0
    rintro vs junk h1 ⟨i, hi, rfl, o1⟩
    have hle : n / 256 ^ i ≤ n := Nat.div_le_self _ _
    have hbl := be_length i n
    by_cases hlt : i < k
    · have e1 : n / 256 ^ (i + 1) = n / 256 ^ i / 256 := by rw [Nat.pow_succ, Nat.div_div_eq_div_mul]
      have e2 : be (i + 1) n = byteOf (n / 256 ^ i) :: be i n := by
        unfold be
        rw [List.range_succ_eq_map]
        simp only [List.map_cons, List.map_map]
        congr 1
        refine List.map_congr_left fun j hj => ?_
        simp only [Function.comp_apply]
        congr 3; omega
      generalize n / 256 ^ i = x at *
      have hb : ((x : Int) % 256) % 256 = ((byteOf x).toNat : Int) := by rw [byteOf_toNat]; omega
      refine Br.dec (fun c20 => ?_) (fun hc => absurd (by omega) hc)
      refine StillVC.run (StillVC.remE rfl rfl (by omega) (by omega) ?_)
      refine StillVC.run (StillVC.convI rfl int3 int5 ?_)
      refine Ar.u8 (by omega) (by omega) ?_
      (refine RunVC.lit o1 sl59 ty5 rfl rfl (by decide) (And.intro rfl ?_); intro b23 m23 o23)
      have ar : Arr m23 (.slice (some ⟨b23, 0, none⟩) 1 1) (bytes [byteOf x]) := by
        have hb' : bytes [byteOf x] = [Value.int .u8 ((x : Int) % 256)] := by simp only [bytes, List.map_cons, List.map_nil, ← hb]; congr 2; omega
        rw [hb']; exact o23.boxArr 0 rfl rfl (Nat.le_refl _)
      refine StillVC.run (StillVC.bytesStr ar sl59 int5 str9 ?_)
      refine StillVC.run (StillVC.strAdd rfl rfl (by first | omega | (simp; omega)) ?_)
      refine StillVC.run (StillVC.quoE rfl rfl (by omega) (by omega) (by simp [IntKind.max, IntKind.signed, IntKind.bits] <;> omega) ?_)
      refine Ar.i64 (by omega) (by omega) ?_
      refine ⟨rfl, ?_⟩
      exact ⟨⟨i + 1, by omega, by rw [e1, e2]; rfl, o23.sel [] rfl⟩, by simp; omega⟩
    · obtain rfl : i = k := by omega
      refine Br.dec (fun hc => absurd hc (by omega)) (fun c40 => ?_)
      refine RetVC.one rfl ?_
      exact ⟨rfl, o1⟩

end Go.Proofs.YtfjajkgfgigodaaGreatDoor

/- Put of the reference, and Get, of chapter 45. -/
namespace Go.Proofs.YtfjajkgfgigodaaGreatDoor
open Go

set_option maxHeartbeats 1600000 in
theorem refPut_spec (e p : Int) (body : List UInt8) (h : Heap) (hb : body.length ≤ 140737488351232) :
    SpecR Tryz.prog 98 [.int .i64 e, .int .i64 p, .string ⟨⟨body⟩⟩] h fun r h' => r = .tuple ⟨[.string ⟨⟨(putR e p body).1⟩⟩, .int .i64 (putR e p body).2]⟩ ∧ Own h [] h' := by
  refine Spec.enter Tryz.func98 rfl Tryz.ntmps98 (by kernel_rfl) ?_
  have o0 := Own.refl h
  refine CallVC.ret (refPlaced_spec e p h) ?_
  rintro _ h1 ⟨rfl, oc⟩
  have o1 := o0.ext' oc
  clear o0 oc
  cases hp : placedB e p with
  | false =>
    refine Br.tt ?_
    refine RetVC.two rfl ?_
    exact ⟨by simp [putR, hp], o1⟩
  | true =>
    by_cases hl : body.length ≤ 40
    · have hR : putR e p body = (putL e.toNat p.toNat body, 0) := by simp [putR, hp, hl]
      rw [hR]
      have hpl := placedB_spec hp
      obtain ⟨en, rfl⟩ : ∃ en : Nat, e = en := ⟨e.toNat, by omega⟩
      obtain ⟨pn, rfl⟩ : ∃ pn : Nat, p = pn := ⟨p.toNat, by omega⟩
      simp only [Int.toNat_natCast]
      have l8 := be_length 8 en
      have l4 := be_length 4 pn
      have l5 := be_length 4 body.length
      refine Br.ff ?_
      refine StillVC.run (StillVC.lenS rfl str9 ?_)
      refine Br.dec (fun hc => absurd hc (by omega)) (fun c31 => ?_)
      refine CallVC.ret (number_spec en 8 _ (by omega) (by decide)) ?_
      rintro _ h2 ⟨rfl, oc⟩
      have o2 := o1.ext' oc
      refine CallVC.ret (number_spec pn 4 _ (by omega) (by decide)) ?_
      rintro _ h3 ⟨rfl, od⟩
      have o3 := o2.ext' od
      refine StillVC.run (StillVC.strAdd rfl rfl (by first | omega | (simp; omega)) ?_)
      refine StillVC.run (StillVC.lenS rfl str9 ?_)
      refine CallVC.ret (number_spec body.length 4 _ (by omega) (by decide)) ?_
      rintro _ h4 ⟨rfl, oe⟩
      have o4 := o3.ext' oe
      clear o1 o2 o3
      refine StillVC.run (StillVC.strAdd rfl rfl (by first | omega | (simp; omega)) ?_)
      refine StillVC.run (StillVC.strAdd rfl rfl (by first | omega | (simp; omega)) ?_)
      refine LoopVC.intro [8, 27, 28, 29, 30, 31, 32] [8] (fun vs h1 => ∃ (i : Nat), i ≤ 40 - body.length ∧ vs = [.string ⟨⟨be 8 en ++ be 4 pn ++ be 4 body.length ++ body ++ List.replicate i 0⟩⟩] ∧ Own h [] h1) (fun vs _ => match vs with | [.string s] => 56 - s.size | _ => 0) ?_ ?_
      · exact ⟨0, by omega, by simp, o4⟩
      · clear o4
        rintro vs junk h5 ⟨i, hi, rfl, o5⟩
        have ll : (be 8 en ++ be 4 pn ++ be 4 body.length ++ body ++ List.replicate i 0).length = 16 + body.length + i := by simp [be_length]; omega
        by_cases hlt : i < 40 - body.length
        · refine StillVC.run (StillVC.lenS rfl str9 ?_)
          refine Br.dec (fun c71 => ?_) (fun hc => absurd (by omega) hc)
          refine CallVC.ret (number_spec 0 1 _ (by decide) (by decide)) ?_
          rintro _ h6 ⟨rfl, oc⟩
          have o6 := o5.ext' oc
          rw [be_zero1]
          refine StillVC.run (StillVC.strAdd rfl rfl (by first | omega | (simp; omega)) ?_)
          refine ⟨rfl, ?_⟩
          have e : be 8 en ++ be 4 pn ++ be 4 body.length ++ body ++ List.replicate i 0 ++ [0] = be 8 en ++ be 4 pn ++ be 4 body.length ++ body ++ List.replicate (i + 1) 0 := by
            rw [List.append_assoc _ (List.replicate i 0), ← List.replicate_succ']
          refine ⟨⟨i + 1, by omega, by rw [e], o6⟩, ?_⟩
          show 56 - (be 8 en ++ be 4 pn ++ be 4 body.length ++ body ++ List.replicate i 0 ++ [0]).length < 56 - (be 8 en ++ be 4 pn ++ be 4 body.length ++ body ++ List.replicate i 0).length
          rw [List.length_append, ll]; simp; omega
        · obtain rfl : i = 40 - body.length := by omega
          have hsr := sumL_range (preL en pn body)
          have hpl2 := preL_length (e := en) (p := pn) hl
          refine StillVC.run (StillVC.lenS rfl str9 ?_)
          refine Br.dec (fun hc => absurd hc (by omega)) (fun c81 => ?_)
          change CallVC Tryz.prog _ ([] ++ ([.string ⟨⟨preL en pn body⟩⟩] ++ [])) _ _ _ _
          refine CallVC.ret (refSum_spec (preL en pn body) _ (by omega)) ?_
          rintro _ h6 ⟨rfl, oc⟩
          have o6 := o5.ext' oc
          obtain ⟨sn, hsn⟩ : ∃ sn : Nat, sumL (preL en pn body) = sn := ⟨(sumL (preL en pn body)).toNat, by omega⟩
          rw [hsn] at hsr ⊢
          refine CallVC.ret (number_spec sn 8 _ (by omega) (by decide)) ?_
          rintro _ h7 ⟨rfl, od⟩
          have o7 := o6.ext' od
          have l9 := be_length 8 sn
          refine StillVC.run (StillVC.strAdd rfl rfl (by first | omega | (simp; omega)) ?_)
          refine RetVC.two rfl ?_
          refine ⟨?_, o7⟩
          have : putL en pn body = preL en pn body ++ be 8 sn := by unfold putL; rw [hsn]; simp
          rw [this]; rfl
    · refine Br.ff ?_
      refine StillVC.run (StillVC.lenS rfl str9 ?_)
      refine Br.dec (fun c91 => ?_) (fun hc => absurd (by omega) hc)
      refine RetVC.two rfl ?_
      exact ⟨by simp [putR, hp, hl], o1⟩

set_option maxHeartbeats 1600000 in
set_option maxRecDepth 100000 in
theorem get_spec (e p : Int) (l : List UInt8) (h : Heap) (_hl : l.length ≤ 140737488351232) :
    SpecR Tryz.prog 48 [.int .i64 e, .int .i64 p, .string ⟨⟨l⟩⟩] h fun r h' => r = .tuple ⟨[.string ⟨⟨(getR e p l).1⟩⟩, .int .i64 (getR e p l).2]⟩ ∧ Own h [] h' := by
  refine Spec.enter Tryz.func48 rfl Tryz.ntmps48 (by kernel_rfl) ?_
  have o0 := Own.refl h
  refine CallVC.ret (placed_spec e p h) ?_
  rintro _ h1 ⟨rfl, oc⟩
  have o1 := o0.ext' oc
  clear o0 oc
  cases hp : placedB e p with
  | false =>
    refine Br.tt ?_
    refine RetVC.two rfl ?_
    exact ⟨by simp [getR, hp], o1⟩
  | true =>
  by_cases h64 : l.length = 64
  · have lb : (bytes l).length = 64 := by simp [h64]
    have k1 : (e8 l).length ≤ 1000 := by simp [e8]; omega
    have k2 : (p4 l).length = 4 := by simp [p4]; omega
    have k3 : (n4 l).length = 4 := by simp [n4]; omega
    have b2 := unbe_lt (p4 l)
    have b3 := unbe_lt (n4 l)
    rw [k2] at b2
    rw [k3] at b3
    simp only [Nat.reducePow] at b2 b3
    refine Br.ff ?_
    refine StillVC.run (StillVC.lenS rfl str9 ?_)
    refine Br.ndec (fun hc => absurd (by first | omega | assumption | decide | exact rfl) hc) (fun c31 => ?_)
    (refine RunVC.strBytes o1 str9 sl59 int5 rfl ?_; intro v32 m32 o32)
    (refine StillVC.run (StillVC.slice3 sl59 ty5 (o32.roArr 0 rfl) rfl rfl rfl (by omega) (by omega) (by omega) (by first | omega | (simp; omega)) ?_); intro v33 a33)
    have a1 : Arr m32 v33 (bytes (e8 l)) := by unfold e8; rw [← bytes_slice l 0 8]; exact a33
    refine CallVC.ret (read_spec (e8 l) v33 _ a1 k1) ?_
    rintro _ h2 ⟨rfl, oc⟩
    have o2 := o32.ext' oc
    clear o32 a33 a1 oc
    (refine StillVC.run (StillVC.slice3 sl59 ty5 (o2.roArr 0 rfl) rfl rfl rfl (by omega) (by omega) (by omega) (by first | omega | (simp; omega)) ?_); intro v40 a40)
    have a2 : Arr h2 v40 (bytes (p4 l)) := by unfold p4; rw [← bytes_slice l 8 12]; exact a40
    refine CallVC.ret (read_spec (p4 l) v40 _ a2 (by omega)) ?_
    rintro _ h3 ⟨rfl, oc⟩
    have o3 := o2.ext' oc
    rw [if_pos b2, decide_eq_true b2]
    clear o2 a40 a2 oc
    (refine StillVC.run (StillVC.slice3 sl59 ty5 (o3.roArr 0 rfl) rfl rfl rfl (by omega) (by omega) (by omega) (by first | omega | (simp; omega)) ?_); intro v50 a50)
    have a3 : Arr h3 v50 (bytes (n4 l)) := by unfold n4; rw [← bytes_slice l 12 16]; exact a50
    refine CallVC.ret (read_spec (n4 l) v50 _ a3 (by omega)) ?_
    rintro _ h4 ⟨rfl, oc⟩
    have o4 : Own h [] h4 := (o3.ext' oc).sel [] rfl
    rw [if_pos b3, decide_eq_true b3]
    clear o3 a50 a3 oc o1
    by_cases b1 : unbe (e8 l) < 4294967296
    · rw [if_pos b1, decide_eq_true b1]
      by_cases hn : unbe (n4 l) ≤ 40
      · have hbl : (bodyOf l).length ≤ 140737488351232 := by unfold bodyOf; simp; omega
        refine Br.ff ?_
        refine Br.ff ?_
        refine Br.ff ?_
        refine Br.dec (fun hc => absurd hc (by omega)) (fun c60 => ?_)
        refine Ar.i64 (by omega) (by omega) ?_
        refine StillVC.run (StillVC.sliceS str9 rfl ⟨_, rfl⟩ ⟨_, rfl⟩ (by omega) (by omega) (by omega) ?_)
        refine CallVC.ret (put_spec (unbe (e8 l)) (unbe (p4 l)) (bodyOf l) _ hbl) ?_
        rintro _ h5 ⟨rfl, oc⟩
        have o5 := o4.ext' oc
        clear o4 oc
        by_cases hput : putR (unbe (e8 l)) (unbe (p4 l)) (bodyOf l) = (l, 0)
        · have hk : okS l = true := by simp [okS, h64, hn, hput]
          rw [hput]
          by_cases he : (unbe (e8 l) : Int) = e
          · by_cases hpp : (unbe (p4 l) : Int) = p
            · refine Br.ndec (fun hc => absurd (by first | omega | assumption | decide | exact rfl) hc) (fun c90 => ?_)
              refine Br.ndec (fun hc => absurd (by first | omega | assumption | decide | exact rfl) hc) (fun c91 => ?_)
              refine Br.ndec (fun hc => absurd (by first | omega | assumption | decide | exact rfl) hc) (fun c92 => ?_)
              refine Br.ndec (fun hc => absurd (by first | omega | assumption | decide | exact rfl) hc) (fun c93 => ?_)
              refine RetVC.two rfl ?_
              refine ⟨?_, o5⟩
              simp only [getR, hp, hk, he, hpp, if_true, and_self]; rfl
            · refine Br.ndec (fun hc => absurd (by first | omega | assumption | decide | exact rfl) hc) (fun c100 => ?_)
              refine Br.ndec (fun hc => absurd (by first | omega | assumption | decide | exact rfl) hc) (fun c101 => ?_)
              refine Br.ndec (fun hc => absurd (by first | omega | assumption | decide | exact rfl) hc) (fun c102 => ?_)
              refine Br.ndec (fun c103 => ?_) (fun hc => absurd hc (by first | omega | assumption | decide | exact rfl))
              refine RetVC.two rfl ?_
              exact ⟨by simp [getR, hp, hk, hpp], o5⟩
          · refine Br.ndec (fun hc => absurd (by first | omega | assumption | decide | exact rfl) hc) (fun c110 => ?_)
            refine Br.ndec (fun hc => absurd (by first | omega | assumption | decide | exact rfl) hc) (fun c111 => ?_)
            refine Br.ndec (fun c112 => ?_) (fun hc => absurd hc (by first | omega | assumption | decide | exact rfl))
            refine Br.tt ?_
            refine RetVC.two rfl ?_
            exact ⟨by simp [getR, hp, hk, he], o5⟩
        · have hk : okS l = false := by simp [okS, hput]
          generalize putR (unbe (e8 l)) (unbe (p4 l)) (bodyOf l) = R at *
          obtain ⟨w, er⟩ := R
          by_cases her : er = 0
          · subst her
            have hw : ¬ w = l := fun e => hput (by rw [e])
            refine Br.ndec (fun hc => absurd (by first | omega | assumption | decide | exact rfl) hc) (fun c120 => ?_)
            refine Br.ndec (fun c121 => ?_) (fun hc => absurd hc (by first | omega | assumption | decide | exact rfl))
            refine RetVC.two rfl ?_
            exact ⟨by simp [getR, hp, hk], o5⟩
          · refine Br.ndec (fun c130 => ?_) (fun hc => absurd hc (by first | omega | assumption | decide | exact rfl))
            refine Br.tt ?_
            refine RetVC.two rfl ?_
            exact ⟨by simp [getR, hp, hk], o5⟩
      · refine Br.ff ?_
        refine Br.ff ?_
        refine Br.ff ?_
        refine Br.dec (fun c70 => ?_) (fun hc => absurd (by omega) hc)
        refine RetVC.two rfl ?_
        exact ⟨by simp [getR, hp, okS, hn], o4⟩
    · rw [if_neg b1, decide_eq_false b1]
      have hbad : okS l = false := by
        cases hk : okS l with
        | false => rfl
        | true =>
          have := placedB_spec (putR_ok (okS_spec hk).2.2).1
          omega
      refine Br.tt ?_
      refine Br.tt ?_
      refine RetVC.two rfl ?_
      exact ⟨by simp [getR, hp, hbad], o4⟩
  · refine Br.ff ?_
    refine StillVC.run (StillVC.lenS rfl str9 ?_)
    refine Br.ndec (fun c41 => ?_) (fun hc => absurd hc (by first | omega | assumption | decide | exact rfl))
    refine RetVC.two rfl ?_
    exact ⟨by simp [getR, hp, okS, h64], o1⟩

end Go.Proofs.YtfjajkgfgigodaaGreatDoor

/- Texts of chapter 45: cuts, comparisons, the reference's numerals. -/
namespace Go.Proofs.YtfjajkgfgigodaaGreatDoor
open Go

theorem index1_spec (l : List UInt8) (c : UInt8) (h : Heap) : SpecR Tryz.prog 129 [.string ⟨⟨l⟩⟩, .string ⟨⟨[c]⟩⟩] h fun r h' => r = .int .i64 (Lib.indexByte l c) ∧ Own h [] h' := by
  refine ⟨⟨_, Tryz.func129, rfl, by kernel_rfl⟩, fun w hw => ?_⟩
  refine (Tryz.stringslite_Index_one ⟨⟨l⟩⟩ c w).mono ?_
  rintro e w' ⟨rfl, rfl⟩
  subst hw
  exact ⟨.refl w', rfl, .refl _⟩

theorem cut0_spec (l : List UInt8) (h : Heap) (hl : l.length ≤ 140737488355328) : SpecR Tryz.prog 109 [.string ⟨⟨l⟩⟩, .string ⟨⟨[58]⟩⟩] h fun r h' => r = .tuple ⟨[.string ⟨⟨(cutR l).1⟩⟩, .string ⟨⟨(cutR l).2.1⟩⟩, .bool (cutR l).2.2]⟩ ∧ Own h [] h' := by
  refine Spec.enter Tryz.func109 rfl Tryz.ntmps109 (by kernel_rfl) ?_
  have o0 := Own.refl h
  refine CallVC.ret (index1_spec l 58 h) ?_
  rintro _ h1 ⟨rfl, oc⟩
  have o1 := o0.ext' oc
  have hr := indexByte_range l 58
  have h58 : ([58] : List UInt8).length = 1 := rfl
  have hcut : cutR l = if 0 ≤ Lib.indexByte l 58 then (l.take (Lib.indexByte l 58).toNat, l.drop ((Lib.indexByte l 58).toNat + 1), true) else (l, [], false) := rfl
  generalize hi : Lib.indexByte l 58 = i at *
  by_cases h0 : 0 ≤ i
  · refine Br.dec (fun c20 => ?_) (fun hc => absurd (by omega) hc)
    refine DrawVC.intro [0, 1, 2, 3, 4, 5, 6, 7, 8, 9, 10, 11] [] [] [0, 1, 2, 3, 4, 5, 6, 7, 8, 9, 10, 11] mixed (by kernel_rfl) rfl (fun _ _ _ _ h => h) ?_
    refine StillVC.sliceS str9 rfl rfl ⟨_, rfl⟩ (by omega) (by omega) (by omega) ?_
    refine StillVC.lenS rfl str9 ?_
    refine Ar.i64 (by omega) (by omega) ?_
    refine StillVC.sliceS str9 rfl ⟨_, rfl⟩ rfl (by omega) (by omega) (by omega) ?_
    refine RetVC.three rfl ?_
    refine ⟨?_, o1⟩
    rw [hcut, if_pos h0]
    have e1 : (i + (([58] : List UInt8).length : Int)).toNat = i.toNat + 1 := by rw [h58]; omega
    rw [e1, Int.toNat_natCast, List.take_length]
    rfl
  · refine Br.dec (fun hc => absurd hc (by omega)) (fun c30 => ?_)
    refine RetVC.three rfl ?_
    refine ⟨?_, o1⟩
    rw [hcut, if_neg h0]

theorem cut_spec (l : List UInt8) (h : Heap) (hl : l.length ≤ 140737488355328) : SpecR Tryz.prog 82 [.string ⟨⟨l⟩⟩, .string ⟨⟨[58]⟩⟩] h fun r h' => r = .tuple ⟨[.string ⟨⟨(cutR l).1⟩⟩, .string ⟨⟨(cutR l).2.1⟩⟩, .bool (cutR l).2.2]⟩ ∧ Own h [] h' := by
  refine Spec.enter Tryz.func82 rfl Tryz.ntmps82 (by kernel_rfl) ?_
  refine CallVC.ret (cut0_spec l h hl) ?_
  rintro _ h1 ⟨rfl, oc⟩
  refine RetVC.three rfl ?_
  exact ⟨rfl, oc⟩

theorem equal_spec (a b : List (List UInt8)) (va vb : Value) (h : Heap) (a0 : Arr h va (strs a)) (b0 : Arr h vb (strs b)) (ha : a.length ≤ 1000000000) :
    SpecR Tryz.prog 84 [va, vb] h fun r h' => r = .bool (decide (a = b)) ∧ Own h [] h' := by
  refine Spec.enter Tryz.func84 rfl Tryz.ntmps84 (by kernel_rfl) ?_
  have la : (strs a).length = a.length := by simp
  have lb : (strs b).length = b.length := by simp
  by_cases hab : a.length = b.length
  · refine StillVC.run (StillVC.lenAn a0 (by assumption) sl22 ?_)
    refine StillVC.run (StillVC.lenAn b0 (by assumption) sl22 ?_)
    refine Br.ndec (fun hc => absurd (by first | omega | assumption | decide | exact rfl) hc) (fun c12 => ?_)
    refine StillVC.run (StillVC.lenAn a0 (by assumption) sl22 ?_)
    refine LoopVC.intro [4, 5, 13, 14, 15, 16, 17, 18, 19, 20, 21, 22, 23, 24, 25] [13] (fun vs h1 => ∃ (i : Nat), i ≤ a.length ∧ vs = [.int .i64 i] ∧ a.take i = b.take i ∧ h1 = h) (fun vs _ => match vs with | [.int _ i] => a.length - i.toNat | _ => 0) ?_ ?_
    · exact ⟨0, by omega, rfl, rfl, rfl⟩
    · rintro vs junk h1 ⟨i, hi, rfl, he, rfl⟩
      by_cases hlt : i < a.length
      · obtain ⟨x, hx⟩ := getx hlt
        obtain ⟨y, hy⟩ := getx (show i < b.length by omega)
        by_cases hxy : x = y
        · subst hxy
          refine Br.dec (fun c20 => ?_) (fun hc => absurd (by omega) hc)
          refine DrawVC.intro [0, 1, 2, 4, 5, 6, 8] [3, 7] [] [0, 1, 2, 3, 4, 5, 6, 7, 8] mixed (by kernel_rfl) rfl (fun _ _ _ _ h => h) ?_
          refine StillVC.idx sl22 ty9 a0 rfl (by omega) (by omega) ?_
          refine StillVC.loadM a0 ty9 rfl (by first | assumption | rfl) ?_
          refine StillVC.idx sl22 ty9 b0 rfl (by omega) (by omega) ?_
          refine StillVC.loadM b0 ty9 rfl (by first | assumption | rfl) ?_
          refine Br.ndec (fun hc => absurd (by first | omega | assumption | decide | exact rfl) hc) (fun c25 => ?_)
          refine Ar.i64 (by omega) (by omega) ?_
          refine ⟨rfl, ?_⟩
          exact ⟨⟨i + 1, by omega, rfl, take_eq_step hx hy he, rfl⟩, by simp; omega⟩
        · refine Br.dec (fun c30 => ?_) (fun hc => absurd (by omega) hc)
          refine DrawVC.intro [0, 1, 2, 4, 5, 6, 8] [3, 7] [] [0, 1, 2, 3, 4, 5, 6, 7, 8] mixed (by kernel_rfl) rfl (fun _ _ _ _ h => h) ?_
          refine StillVC.idx sl22 ty9 a0 rfl (by omega) (by omega) ?_
          refine StillVC.loadM a0 ty9 rfl (by first | assumption | rfl) ?_
          refine StillVC.idx sl22 ty9 b0 rfl (by omega) (by omega) ?_
          refine StillVC.loadM b0 ty9 rfl (by first | assumption | rfl) ?_
          refine Br.ndec (fun c35 => ?_) (fun hc => absurd hc (by first | omega | assumption | decide | exact rfl))
          refine RetVC.one rfl ?_
          exact ⟨by rw [decide_eq_false (ne_at hx hy hxy)], .refl _⟩
      · refine Br.dec (fun hc => absurd hc (by omega)) (fun c40 => ?_)
        refine RetVC.one rfl ?_
        refine ⟨?_, .refl _⟩
        rw [List.take_of_length_le (by omega), List.take_of_length_le (by omega)] at he
        rw [decide_eq_true he]
  · refine StillVC.run (StillVC.lenAn a0 (by assumption) sl22 ?_)
    refine StillVC.run (StillVC.lenAn b0 (by assumption) sl22 ?_)
    refine Br.ndec (fun c52 => ?_) (fun hc => absurd hc (by first | omega | assumption | decide | exact rfl))
    refine RetVC.one rfl ?_
    exact ⟨by rw [decide_eq_false (fun e => hab (by rw [e]))], .refl _⟩

theorem same_spec (a b : List (List UInt8)) (va vb : Value) (h : Heap) (a0 : Arr h va (strs a)) (b0 : Arr h vb (strs b)) (ha : a.length ≤ 1000000000) :
    SpecR Tryz.prog 17 [va, vb] h fun r h' => r = .bool (decide (a = b)) ∧ Own h [] h' := by
  refine Spec.enter Tryz.func17 rfl Tryz.ntmps17 (by kernel_rfl) ?_
  have la : (strs a).length = a.length := by simp
  have lb : (strs b).length = b.length := by simp
  by_cases hab : a.length = b.length
  · refine StillVC.run (StillVC.lenAn a0 (by assumption) sl22 ?_)
    refine StillVC.run (StillVC.lenAn b0 (by assumption) sl22 ?_)
    refine Br.ndec (fun hc => absurd (by first | omega | assumption | decide | exact rfl) hc) (fun c12 => ?_)
    refine LoopVC.intro [4, 5, 11, 12, 13, 14, 15, 16, 17, 18, 19, 20, 21, 22, 23, 24, 25] [5] (fun vs h1 => ∃ (i : Nat), i ≤ a.length ∧ vs = [.int .i64 i] ∧ a.take i = b.take i ∧ h1 = h) (fun vs _ => match vs with | [.int _ i] => a.length - i.toNat | _ => 0) ?_ ?_
    · exact ⟨0, by omega, rfl, rfl, rfl⟩
    · rintro vs junk h1 ⟨i, hi, rfl, he, rfl⟩
      by_cases hlt : i < a.length
      · obtain ⟨x, hx⟩ := getx hlt
        obtain ⟨y, hy⟩ := getx (show i < b.length by omega)
        by_cases hxy : x = y
        · subst hxy
          refine StillVC.run (StillVC.lenAn a0 (by assumption) sl22 ?_)
          refine Br.dec (fun c21 => ?_) (fun hc => absurd (by omega) hc)
          refine DrawVC.intro [0, 1, 2, 4, 5, 6, 8] [3, 7] [] [0, 1, 2, 3, 4, 5, 6, 7, 8] mixed (by kernel_rfl) rfl (fun _ _ _ _ h => h) ?_
          refine StillVC.idx sl22 ty9 a0 rfl (by omega) (by omega) ?_
          refine StillVC.loadM a0 ty9 rfl (by first | assumption | rfl) ?_
          refine StillVC.idx sl22 ty9 b0 rfl (by omega) (by omega) ?_
          refine StillVC.loadM b0 ty9 rfl (by first | assumption | rfl) ?_
          refine Br.ndec (fun hc => absurd (by first | omega | assumption | decide | exact rfl) hc) (fun c26 => ?_)
          refine Ar.i64 (by omega) (by omega) ?_
          refine ⟨rfl, ?_⟩
          exact ⟨⟨i + 1, by omega, rfl, take_eq_step hx hy he, rfl⟩, by simp; omega⟩
        · refine StillVC.run (StillVC.lenAn a0 (by assumption) sl22 ?_)
          refine Br.dec (fun c31 => ?_) (fun hc => absurd (by omega) hc)
          refine DrawVC.intro [0, 1, 2, 4, 5, 6, 8] [3, 7] [] [0, 1, 2, 3, 4, 5, 6, 7, 8] mixed (by kernel_rfl) rfl (fun _ _ _ _ h => h) ?_
          refine StillVC.idx sl22 ty9 a0 rfl (by omega) (by omega) ?_
          refine StillVC.loadM a0 ty9 rfl (by first | assumption | rfl) ?_
          refine StillVC.idx sl22 ty9 b0 rfl (by omega) (by omega) ?_
          refine StillVC.loadM b0 ty9 rfl (by first | assumption | rfl) ?_
          refine Br.ndec (fun c36 => ?_) (fun hc => absurd hc (by first | omega | assumption | decide | exact rfl))
          refine RetVC.one rfl ?_
          exact ⟨by rw [decide_eq_false (ne_at hx hy hxy)], .refl _⟩
      · refine StillVC.run (StillVC.lenAn a0 (by assumption) sl22 ?_)
        refine Br.dec (fun hc => absurd hc (by omega)) (fun c41 => ?_)
        refine RetVC.one rfl ?_
        refine ⟨?_, .refl _⟩
        rw [List.take_of_length_le (by omega), List.take_of_length_le (by omega)] at he
        rw [decide_eq_true he]
  · refine StillVC.run (StillVC.lenAn a0 (by assumption) sl22 ?_)
    refine StillVC.run (StillVC.lenAn b0 (by assumption) sl22 ?_)
    refine Br.ndec (fun c52 => ?_) (fun hc => absurd hc (by first | omega | assumption | decide | exact rfl))
    refine RetVC.one rfl ?_
    exact ⟨by rw [decide_eq_false (fun e => hab (by rw [e]))], .refl _⟩

/- THE REFERENCE's NUMERALS -/

set_option maxRecDepth 100000 in
theorem digits_spec (u : Nat) : ∀ (h : Heap), u < 9223372036854775808 →
    SpecR Tryz.prog 117 [.int .i64 u] h fun r h' => r = .string ⟨⟨digs u⟩⟩ ∧ Own h [] h' := by
  induction u using Nat.strongRecOn with
  | _ u ih =>
    intro h hu
    refine Spec.enter Tryz.func117 rfl Tryz.ntmps117 (by kernel_rfl) ?_
    have o0 := Own.refl h
    by_cases hu0 : u = 0
    · subst hu0
      refine Br.tt ?_
      refine RetVC.one rfl ?_
      exact ⟨rfl, o0⟩
    · refine Br.dec (fun hc => absurd hc (by omega)) (fun c20 => ?_)
      refine DrawVC.intro [0, 1, 3, 4, 5, 6, 7, 8, 9, 10] [] [2] [0, 1, 3, 4, 5, 6, 7, 8, 2, 9, 10] mixed (by kernel_rfl) rfl (fun _ _ _ _ h => h) ?_
      refine StillVC.quoE rfl rfl (by omega) (by omega) (by simp [IntKind.max, IntKind.signed, IntKind.bits] <;> omega) ?_
      refine StillVC.remE rfl rfl (by omega) (by omega) ?_
      refine StillVC.remE rfl rfl (by omega) (by omega) ?_
      refine Ar.i64 (by omega) (by omega) ?_
      refine StillVC.sliceS str9 rfl ⟨_, rfl⟩ ⟨_, rfl⟩ (by omega) (by omega) (by simp only [List.length_cons, List.length_nil, Nat.zero_add]; omega) ?_
      have key := ih (u / 10) (by omega) h (by omega)
      rw [Int.natCast_ediv] at key
      refine CallVC.ret key ?_
      rintro _ h1 ⟨rfl, o1⟩
      have hs := digs_len (u / 10) (by omega)
      refine StillVC.strAdd rfl rfl (by first | omega | (simp; omega)) ?_
      refine RetVC.one rfl ?_
      refine ⟨?_, o1⟩
      rw [digs_step (u := u) (by omega), ← digit_piece (u := u % 10) (by omega)]
      rfl

set_option maxRecDepth 100000 in
theorem decimal_spec (u : Nat) (h : Heap) (hu : u < 9223372036854775808) :
    SpecR Tryz.prog 94 [.int .i64 u] h fun r h' => r = .string ⟨⟨Lib.decDigits u⟩⟩ ∧ Own h [] h' := by
  refine Spec.enter Tryz.func94 rfl Tryz.ntmps94 (by kernel_rfl) ?_
  refine Br.dec (fun hc => absurd hc (by omega)) (fun c20 => ?_)
  refine DrawVC.intro [0, 1, 3, 4, 5, 6, 7, 8, 9, 10] [] [2] [0, 1, 3, 4, 5, 6, 7, 8, 2, 9, 10] mixed (by kernel_rfl) rfl (fun _ _ _ _ h => h) ?_
  refine StillVC.quoE rfl rfl (by omega) (by omega) (by simp [IntKind.max, IntKind.signed, IntKind.bits] <;> omega) ?_
  refine StillVC.remE rfl rfl (by omega) (by omega) ?_
  refine StillVC.remE rfl rfl (by omega) (by omega) ?_
  refine Ar.i64 (by omega) (by omega) ?_
  refine StillVC.sliceS str9 rfl ⟨_, rfl⟩ ⟨_, rfl⟩ (by omega) (by omega) (by simp only [List.length_cons, List.length_nil, Nat.zero_add]; omega) ?_
  have key := digits_spec (u / 10) h (by omega)
  rw [Int.natCast_ediv] at key
  refine CallVC.ret key ?_
  rintro _ h2 ⟨rfl, o2⟩
  have hs := digs_len (u / 10) (by omega)
  refine StillVC.strAdd rfl rfl (by first | omega | (simp; omega)) ?_
  refine RetVC.one rfl ?_
  refine ⟨?_, o2⟩
  have e : Lib.decDigits u = digs (u / 10) ++ [UInt8.ofNat (48 + u % 10)] := by
    by_cases h0 : u = 0
    · subst h0; rw [Lib.decDigits]; decide
    · rw [← digs_step (u := u) (by omega)]; simp [digs, h0]
  rw [e, ← digit_piece (u := u % 10) (by omega)]
  rfl

end Go.Proofs.YtfjajkgfgigodaaGreatDoor

/- The regions of chapter 45's iterator that call yield. -/
namespace Go.Proofs.YtfjajkgfgigodaaGreatDoor
open Go Go.RowKit

abbrev yv (l : Nat) : Value := .func (.yield l) #[] #[]

theorem wpOpsIn_cons {F : Fence} {n : Nat} {P : Program} {ops : Array Oper} {Q : Exit → Act → World → Prop} {i : Nat} {rest : List Nat} {a : Act} {w : World} {o : Oper} (ho : ops[i]? = some o) (hg : o.guard = none)
    (h : o.wpIn F n P a w (wpOpsIn F n P ops Q rest) Q) : wpOpsIn F n P ops Q (i :: rest) a w := by
  simp only [wpOpsIn, ho]
  rw [if_pos (by simp [Region.wanted, hg])]
  exact h

theorem opIn_value {n : Nat} {P : Program} {dst : Option Tmp} {op : Op} {ty : TypeId} {pos : String} {after : Array Edge} {s : List Value} {ds : List Deferred} {w : World} {v : Value} {next : Act → World → Prop} {Q : Exit → Act → World → Prop}
    (hrun : (execOp (ev s) ⟨none, op, ty, "", #[], none⟩).run P w = .ok (.value v) w) (hn : next (act (sput s dst v) ds) w) : Oper.wpIn Fence.wide n P ⟨dst, op, ty, pos, after, none⟩ (act s ds) w next Q := by
  refine ⟨fun _ _ => trivial, ?_⟩
  show Oper.uponIn Fence.wide n P ⟨dst, op, ty, pos, after, none⟩ (act s ds) next Q ((execOp (act s ds).eval ⟨dst, op, ty, pos, after, none⟩).run P w)
  rw [act_eval, execOp_head, hrun, Oper.uponIn_value, act_sput]
  exact hn

theorem opIn_yield {n : Nat} {P : Program} {dst : Option Tmp} {f x : Operand} {tys : Array TypeId} {ty : TypeId} {pos : String} {after : Array Edge} {s : List Value} {ds : List Deferred} {w : World} {l : Nat} {v : Value} {next : Act → World → Prop} {Q : Exit → Act → World → Prop} {R : Ending → World → Prop}
    (hf : ev s f = yv l) (hx : ev s x = v) (hY : YieldAt Fence.wide (n - 1) P l #[v] w R) (hn : ∀ e w', R e w' → ∃ u, e = .returned u ∧ next (act (sput s dst u) ds) w') :
    Oper.wpIn Fence.wide n P ⟨dst, .call ⟨.value f, ⟨[x]⟩, tys⟩, ty, pos, after, none⟩ (act s ds) w next Q := by
  obtain ⟨fn, tmps, assign, body, hy, hR⟩ := hY
  refine ⟨fun _ _ => trivial, ?_⟩
  show Oper.uponIn Fence.wide n P ⟨dst, .call ⟨.value f, ⟨[x]⟩, tys⟩, ty, pos, after, none⟩ (act s ds) next Q ((execOp (act s ds).eval ⟨dst, .call ⟨.value f, ⟨[x]⟩, tys⟩, ty, pos, after, none⟩).run P w)
  have hrun : (execOp (act s ds).eval ⟨dst, .call ⟨.value f, ⟨[x]⟩, tys⟩, ty, pos, after, none⟩).run P w = .ok (.round l fn tmps assign body) w := by
    rw [act_eval]
    simp [execOp, resolve, invoke, hf, hx, Deferred.ofValue, yv, hy]
  rw [hrun, Oper.uponIn_round]
  refine ⟨fun h => by simp [Fence.wide] at h, hR.mono fun e w' he => ?_⟩
  obtain ⟨u, rfl, hu⟩ := hn e w' he
  show next ((act s ds).put dst u) w'
  rw [act_sput]; exact hu

abbrev sl (l b : Nat) (x2 : Value) (s : List UInt8) (x : Nat → Value) : List Value :=
  [yv l, .pointer (some ⟨b, 0, none⟩), x2, .string ⟨⟨s⟩⟩, x 4, x 5, x 6, x 7, x 8, x 9, x 10, x 11, x 12, x 13, x 14, x 15, x 16, x 17, x 18, x 19, x 20, x 21, x 22]

set_option maxRecDepth 100000 in
theorem yield2 {id : Nat} {t1 t2 t3 t4 t5 : TypeId} {p1 p2 p3 p4 p5 : String} {e1 e2 e3 e4 e5 : Array Edge} {tys : Array TypeId} {l b : Nat} {x2 : Value} {s : List UInt8} {x : Nat → Value} {w : World} {Q : Exit → Act → World → Prop} {R : Ending → World → Prop} (h40 : 40 < s.length)
    (hY : YieldAt Fence.wide 4 Tryz.prog l #[.string ⟨⟨s.take 40⟩⟩] w R)
    (hQ : ∀ e w', R e w' → ∃ bv : Bool, e = .returned (.bool bv) ∧ ∀ x' : Nat → Value, x' 17 = .bool (!bv) → Q .normal (act (sl l b x2 s x') []) w') :
    (Code.region id #[⟨some 13, .move (.tmp 0), t1, p1, e1, none⟩, ⟨some 14, .move (.tmp 3), t2, p2, e2, none⟩, ⟨some 15, .slice 9 (.tmp 14) none (some (.const (.int .i64 40))) none, t3, p3, e3, none⟩,
      ⟨some 16, .call ⟨.value (.tmp 13), #[.tmp 15], tys⟩, t4, p4, e4, none⟩, ⟨some 17, .unOp .not 4 (.tmp 16), t5, p5, e5, none⟩] false).wp Tryz.prog Q (act (sl l b x2 s x) []) w := by
  refine wpIn_wide.1 (wpIn_region (F := Fence.wide) (n := 5) ?_)
  show wpOpsIn _ _ _ _ _ [0, 1, 2, 3, 4] _ _
  refine wpOpsIn_cons rfl rfl (opIn_value (v := yv l) (by simp [execOp, ev, sget]) ?_)
  refine wpOpsIn_cons rfl rfl (opIn_value (v := .string ⟨⟨s⟩⟩) (by simp [execOp, ev, sget, sput]) ?_)
  have hst : StillVC true Tryz.prog (.slice 9 (.tmp 14) none (some (.const (.int .i64 40))) none) t3 (sput (sput (sl l b x2 s x) (some 13) (yv l)) (some 14) (.string ⟨⟨s⟩⟩)) w.heap (fun v _ _ => v = .string ⟨⟨s.take 40⟩⟩) := by
    refine StillVC.sliceS (i := 0) (j := 40) (cs := s) str9 rfl rfl ⟨_, rfl⟩ (by omega) (by omega) (by omega) ?_
    rfl
  obtain ⟨v, _, reads, hre, _, hrun, rfl⟩ := hst.ex
  have hre' := hre rfl
  subst hre'
  refine wpOpsIn_cons rfl rfl (opIn_value (hrun w (by simp)) ?_)
  refine wpOpsIn_cons rfl rfl (opIn_yield (l := l) (v := .string ⟨⟨s.take 40⟩⟩) rfl rfl hY fun e w' he => ?_)
  obtain ⟨bv, rfl, hq⟩ := hQ e w' he
  refine ⟨_, rfl, ?_⟩
  refine wpOpsIn_cons rfl rfl (opIn_value (v := .bool (!bv)) (by simp [execOp, ev, sget, sput, Op.unary]) ?_)
  show Q .normal _ w'
  exact hq (fun k => match k with | 13 => yv l | 14 => .string ⟨⟨s⟩⟩ | 15 => .string ⟨⟨s.take 40⟩⟩ | 16 => .bool bv | 17 => .bool (!bv) | k => x k) rfl

set_option maxRecDepth 100000 in
theorem yield4 {id : Nat} {t1 t2 t4 : TypeId} {p1 p2 p4 : String} {e1 e2 e4 : Array Edge} {tys : Array TypeId} {l b : Nat} {x2 : Value} {s : List UInt8} {x : Nat → Value} {w : World} {Q : Exit → Act → World → Prop} {R : Ending → World → Prop}
    (hY : YieldAt Fence.wide 4 Tryz.prog l #[.string ⟨⟨s⟩⟩] w R)
    (hQ : ∀ e w', R e w' → ∃ v, e = .returned v ∧ ∀ x' : Nat → Value, Q .normal (act (sl l b x2 s x') []) w') :
    (Code.region id #[⟨some 20, .move (.tmp 0), t1, p1, e1, none⟩, ⟨some 21, .move (.tmp 3), t2, p2, e2, none⟩,
      ⟨some 22, .call ⟨.value (.tmp 20), #[.tmp 21], tys⟩, t4, p4, e4, none⟩] false).wp Tryz.prog Q (act (sl l b x2 s x) []) w := by
  refine wpIn_wide.1 (wpIn_region (F := Fence.wide) (n := 5) ?_)
  show wpOpsIn _ _ _ _ _ [0, 1, 2] _ _
  refine wpOpsIn_cons rfl rfl (opIn_value (v := yv l) (by simp [execOp, ev, sget]) ?_)
  refine wpOpsIn_cons rfl rfl (opIn_value (v := .string ⟨⟨s⟩⟩) (by simp [execOp, ev, sget, sput]) ?_)
  refine wpOpsIn_cons rfl rfl (opIn_yield (l := l) (v := .string ⟨⟨s⟩⟩) rfl rfl hY fun e w' he => ?_)
  obtain ⟨v, rfl, hq⟩ := hQ e w' he
  refine ⟨v, rfl, ?_⟩
  show Q .normal _ w'
  exact hq (fun k => match k with | 20 => yv l | 21 => .string ⟨⟨s⟩⟩ | 22 => v | k => x k)

end Go.Proofs.YtfjajkgfgigodaaGreatDoor

/- The parts of a text: the iterator of chapter 45 hands them over one by one. -/
namespace Go.Proofs.YtfjajkgfgigodaaGreatDoor
open Go Go.RowKit

/-- The slots behind the iterator's first region. -/
def N0 (l b : Nat) (x2 : Value) (s : List UInt8) (h0 : Heap) : List Value → Heap → Prop := fun s' h' => s' = sl l b x2 s (fun k => sget s' k) ∧ Ext h0 h'

def Q1 (l b : Nat) (s : List UInt8) (h0 : Heap) : QQ
  | .normal, s', h' => 40 < s.length ∧ s' = sl l b undef s (fun k => sget s' k) ∧ h' = h0
  | .exit 0, s', h' => s.length ≤ 40 ∧ s' = sl l b undef s (fun k => sget s' k) ∧ h' = h0
  | _, _, _ => False

def QB (l b : Nat) (t : List UInt8) (J Jx : List (List UInt8) → World → Prop) : Exit → Act → World → Prop
  | .normal, a, w => ∃ s x i, a = act (sl l b undef s x) [] ∧ s.length ≤ 40 ∧ J ((splitL t).take i) w ∧ chunks s = (splitL t).drop i
  | .ret, a, w => a.defers = [] ∧ ∃ pre, Jx pre w
  | _, _, _ => False

theorem carry {J : List (List UInt8) → World → Prop} {B : Nat} (hJ : AbidesFrom B J) {p : List (List UInt8)} {w w' : World} (h : J p w) (hs : Same w w') (he : Ext w.heap w'.heap) : J p w' :=
  hJ p w w' none h ⟨hs.os, hs.tape, hs.output, he.size, fun k hk _ => he.old k hk⟩ (fun r e => by cases e)

set_option maxRecDepth 100000 in
set_option maxHeartbeats 1600000 in
theorem parts1_stops (t : List UInt8) (b : Nat) (w : World) (_hB : b < w.heap.size) (hc : cellAt w.heap ⟨b, 0, none⟩ = some (.string ⟨⟨t⟩⟩)) (ht : TabH w.heap) (hl : t.length ≤ 140737488351232) :
    SeqStopsA Fence.wide 5 Tryz.prog 114 #[.pointer (some ⟨b, 0, none⟩)] (fun x : List UInt8 => #[.string ⟨⟨x⟩⟩]) (fun xs => xs = splitL t) (fun _ => True) (splitL t).length w := by
  intro l J Jx W hW hJ hJx hY h0
  refine callsIn_of_wp Tryz.func114 rfl trivial ?_ rfl
  refine (wpIn_wide (n := 5)).2 ?_
  have hcW : cellAt W.heap ⟨b, 0, none⟩ = some (.string ⟨⟨t⟩⟩) := (show Ext w.heap W.heap from ⟨hW.size, hW.block⟩).cell hc
  have htW : TabH W.heap := ht.ext ⟨hW.size, hW.block⟩
  simp only [Tryz.ntmps114, List.size_toArray, List.length_cons, List.length_nil, Nat.reduceAdd, Nat.reduceSub, Array.replicate_succ, Array.replicate_zero, List.push_toArray, List.append_toArray, List.nil_append, List.cons_append]
  refine wp_seq (wp_mono (vcode_sound (w0 := W) (ds := []) _ (onN (N0 l b undef (wholeL t) W.heap) (fun _ _ _ => False)) [yv l, .pointer (some ⟨b, 0, none⟩), undef, undef, undef, undef, undef, undef, undef, undef, undef, undef, undef, undef, undef, undef, undef, undef, undef, undef, undef, undef, undef] W (.refl W) ?_) ?_)
  · have o0 := Own.refl W.heap
    refine DrawVC.intro [1, 3, 5, 6] [0, 4] [] [0, 1, 4, 2, 3, 5, 6] mixed (by kernel_rfl) rfl (fun _ _ _ _ h => h) ?_
    refine StillVC.load1 ty9 rfl (by assumption) ?_
    refine StillVC.lenS rfl str9 ?_
    refine StillVC.load1 ty9 rfl (by assumption) ?_
    refine CallVC.ret (itoa_spec t.length _ (by omega) (by omega) htW) ?_
    rintro _ h1 ⟨rfl, oc⟩
    rw [itoa_nat]
    have hd := decDigits_short t.length (by omega)
    (refine And.intro oc.ext ?_; have o20 := Own.call o0 oc; simp only [List.nil_append] at o20; clear oc)
    refine StillVC.strAdd rfl rfl (by first | omega | (simp; omega)) ?_
    refine StillVC.strAdd rfl rfl (by first | omega | (simp; omega)) ?_
    exact ⟨rfl, Own.ext (B := ⟨W.heap, []⟩) (L := []) (by assumption)⟩
  · rintro e a' w' ⟨s', rfl, hs', hq⟩
    cases e with
    | normal =>
      obtain ⟨hs1, hext⟩ := hq
      generalize (fun k => sget s' k) = x at hs1
      subst hs1
      have hJ0 : J [] w' := carry hJ h0 hs' hext
      have hwl : (wholeL t).length ≤ 281474976710656 := by
        have hd := decDigits_short t.length (by omega)
        simp [wholeL]; omega
      clear hext hs' h0
      refine wp_seq (wp_mono (wp_block (Q := QB l b t J Jx) (wp_loop (fun a w => ∃ s x i, a = act (sl l b undef s x) [] ∧ J ((splitL t).take i) w ∧ chunks s = (splitL t).drop i ∧ s.length ≤ 281474976710656)
        (fun a _ => match sget a.tmps.toList 3 with | .string st => st.size | _ => 0) ⟨wholeL t, x, 0, rfl, hJ0, rfl, hwl⟩ ?_)) ?_)
      · clear hJ0 hwl
        rintro a w1 ⟨s, x, i, rfl, hj, hch, hsl⟩
        refine wp_seq (wp_mono (vcode_sound (w0 := w1) (ds := []) _ (Q1 l b s w1.heap) (sl l b undef s x) w1 (.refl w1) ?_) ?_)
        · by_cases h40 : 40 < s.length
          · refine StillVC.run (StillVC.lenS rfl str9 ?_)
            refine Br.dec (fun c31 => ?_) (fun hc => absurd (by omega) hc)
            exact ⟨h40, rfl, rfl⟩
          · refine StillVC.run (StillVC.lenS rfl str9 ?_)
            refine Br.dec (fun hc => absurd hc (by omega)) (fun c41 => ?_)
            exact ⟨by omega, rfl, rfl⟩
        · rintro e a2 w2 ⟨s2, rfl, hs2, hq⟩
          cases e with
          | normal =>
            obtain ⟨h40, e2, eh⟩ := hq
            generalize (fun k => sget s2 k) = x2 at e2
            subst e2
            have hj2 : J ((splitL t).take i) w2 := carry hJ hj hs2 (by rw [eh]; exact .refl _)
            rw [chunks_gt h40] at hch
            obtain ⟨hi, htk, hdr⟩ := drop_head hch.symm
            refine wp_block (wp_seq (wp_seq (yield2 h40 (hY _ (s.take 40) w2 hj2 (by rw [List.length_take]; omega)) fun e w3 he => ?_)))
            rcases he with ⟨rfl, hj3, _⟩ | ⟨rfl, hx3⟩
            · refine ⟨true, rfl, fun x' hx' => ?_⟩
              refine wp_cond_split (t := false) (by rw [act_eval]; exact hx') (fun h => by cases h) (fun _ => wp_skip ?_)
              refine wp_mono (vcode_sound (w0 := w3) (ds := []) _ (onN (fun s' h' => s' = sl l b undef (s.drop 40) (fun k => sget s' k) ∧ h' = w3.heap) (fun _ _ _ => False)) _ w3 (.refl w3) ?_) ?_
              · refine StillVC.run (StillVC.sliceS str9 rfl ⟨_, rfl⟩ rfl (by omega) (by omega) (by omega) ?_)
                refine ⟨?_, rfl⟩
                have : ((s.take (s.length : Int).toNat).drop (Int.toNat 40)) = s.drop 40 := by rw [Int.toNat_natCast, List.take_length]; rfl
                rw [this]; rfl
              · rintro e a4 w4 ⟨s4, rfl, hs4, hq4⟩
                cases e with
                | normal =>
                  obtain ⟨e4, eh4⟩ := hq4
                  generalize (fun k => sget s4 k) = x4 at e4
                  subst e4
                  rw [← htk] at hj3
                  refine ⟨⟨s.drop 40, x4, i + 1, rfl, carry hJ hj3 hs4 (by rw [eh4]; exact .refl _), hdr.symm, by simp; omega⟩, ?_⟩
                  show (s.drop 40).length < s.length
                  simp; omega
                | _ => exact hq4.elim
            · refine ⟨false, rfl, fun x' hx' => ?_⟩
              refine wp_cond_split (t := true) (by rw [act_eval]; exact hx') (fun _ => wp_ret ?_) (fun h => by cases h)
              exact ⟨rfl, _, hx3⟩
          | exit id =>
            cases id with
            | zero =>
              obtain ⟨h40, e2, eh⟩ := hq
              exact ⟨s, _, i, by rw [e2], h40, carry hJ hj hs2 (by rw [eh]; exact .refl _), hch⟩
            | succ id => exact hq.elim
          | _ => exact hq.elim
      · rintro e a2 w2 hq
        cases e with
        | normal =>
          obtain ⟨s, x, i, rfl, h40, hj, hch⟩ := hq
          rw [chunks_le h40] at hch
          obtain ⟨hi, htk, hdr⟩ := drop_head hch.symm
          refine yield4 (hY _ s w2 hj (by rw [List.length_take]; omega)) fun e w3 he => ?_
          have hall : (splitL t).take i ++ [s] = splitL t := by
            rw [← htk]
            refine List.take_of_length_le ?_
            have := congrArg List.length hdr
            simp at this; omega
          rcases he with ⟨rfl, hj3, _⟩ | ⟨rfl, hx3⟩
          · refine ⟨_, rfl, fun x' => ⟨rfl, _, results_none rfl _ _ _, ⟨_, rfl⟩, .inl ⟨_, rfl, ?_⟩⟩⟩
            rwa [hall] at hj3
          · exact ⟨_, rfl, fun x' => ⟨rfl, _, results_none rfl _ _ _, ⟨_, rfl⟩, .inr ⟨_, trivial, hx3⟩⟩⟩
        | ret =>
          obtain ⟨hd, pre, hx⟩ := hq
          exact ⟨hd, _, results_none rfl _ _ _, ⟨_, rfl⟩, .inr ⟨pre, trivial, hx⟩⟩
        | _ => exact hq.elim
    | _ => exact hq.elim

end Go.Proofs.YtfjajkgfgigodaaGreatDoor

/- A walk of a round's body: the small program logic in a round's frame. -/
namespace Go.Proofs.YtfjajkgfgigodaaGreatDoor
open Go Go.RowKit

def noDefer (o : Oper) : Bool := match o.op with | .defer _ => false | _ => true

def plainOp (o : Oper) : Bool := noDefer o && o.guard.isNone

theorem opIn_of_wp {k n : Nat} {P : Program} {o : Oper} {a : Act} {w : World} {next : Act → World → Prop} {Q : Exit → Act → World → Prop} (hd : noDefer o = true) (h : Oper.wp P o a w next Q) :
    Oper.wpIn (Fence.wide.inRound k) n P o a w next Q := by
  refine ⟨fun _ _ => trivial, ?_⟩
  have hs : o.semAt (Fence.wide.inRound k).round a.eval = execOp a.eval o := Oper.semAt_eq _ _ _ (fun c hc => by simp [noDefer, hc] at hd)
  rw [hs]
  unfold Oper.wp at h
  have hdep : (Fence.wide.inRound k).depth.isSome = true → 1 ≤ n := fun h => by simp [Fence.wide, Fence.inRound] at h
  cases hr : (execOp a.eval o).run P w with
  | halt x w' =>
    rw [hr] at h
    cases x <;> first | exact h | exact h.elim
  | ok r w' =>
    rw [hr] at h
    cases r with
    | value v => exact h
    | skip => exact h
    | defer d => exact h
    | enter f args => exact ⟨hdep, (callsIn_wide (n := n - 1)).2 h⟩
    | row row args =>
      refine ⟨hdep, fun c cs _ => ?_⟩
      obtain ⟨v, w2, hR, hst⟩ := h c cs
      exact ⟨v, w2, hR, stepsIn_wide.2 hst⟩
    | _ => exact h.elim

theorem vreg_soundR {k n : Nat} {P : Program} {ops : Array Oper} {Q : QQ} {w0 : World} {ds : List Deferred} : ∀ (l : List Oper) (D : List Nat) (s : List Value) (w : World), l.all plainOp = true →
    Same w0 w → vreg P ops.toList l D s w.heap Q → wpListIn (Fence.wide.inRound k) n P ops (lift w0 ds Q) l (act s ds) w
  | [], _, s, w, _, hs, hv => ⟨s, rfl, hs, hv⟩
  | ⟨dst, op, ty, pos, after, some (j, want)⟩ :: rest, D, s, w, hp, hs, hv => by simp [plainOp] at hp
  | ⟨dst, op, ty, pos, after, none⟩ :: rest, D, s, w, hp, hs, hv => by
    simp only [List.all_cons, Bool.and_eq_true] at hp
    simp only [vreg_cons, vstep] at hv
    unfold wpListIn
    rw [if_pos (by simp [Region.wanted])]
    refine opIn_of_wp (by have := hp.1; simp only [plainOp, Bool.and_eq_true] at this; exact this.1) ?_
    exact (vop_sound hv).run w rfl ds dst pos after none _ _
      (fun v l w' hw' hk => by rw [act_sput]; rw [ssetO_eq] at hk; exact vreg_soundR rest _ _ _ hp.2 (hs.trans hw') hk)
      (fun c w' hw' hq => ⟨s, rfl, hs.trans hw', hq⟩)

theorem regionR {k n id : Nat} {P : Program} {ops : Array Oper} {Q : QQ} {w : World} {ds : List Deferred} {s : List Value} (hp : ops.toList.all plainOp = true) (hv : vreg P ops.toList ops.toList [] s w.heap Q) :
    (Code.region id ops false).wpIn (Fence.wide.inRound k) n P (lift w ds Q) (act s ds) w :=
  wpIn_region_list (vreg_soundR _ _ _ _ hp (.refl w) hv)

/-- What a call owns lies on where a block that is no cells has turned. -/
theorem Own.turned {B : Base} {L : List Item} {w w' : World} {row : Option Nat} (o : Own B L w.heap) (hg : w.grownBy w' row) (hr : ∀ r, row = some r → B.h.size ≤ r ∧ ∃ x : Obj, w.heap[r]? = some x ∧ x.isCells = false)
    (hc : ∀ x ∈ L ++ B.T, ∀ b, x.fp b → ∃ c t f, w.heap[b]? = some (.cells c t f)) : Own B L w'.heap := by
  have hne : ∀ x ∈ L ++ B.T, ∀ b, x.fp b → some b ≠ row := by
    intro x hx b hb e
    obtain ⟨_, y, hy, hyc⟩ := hr b e.symm
    obtain ⟨c, t, f, hcell⟩ := hc x hx b hb
    rw [hcell] at hy
    injection hy with hy
    subst hy
    simp [Obj.isCells] at hyc
  have keep : ∀ b, b < w.heap.size → some b ≠ row → w'.heap[b]? = w.heap[b]? := fun b hb hn => hg.block b hb (fun e => hn e)
  unfold Own at o ⊢
  refine ⟨⟨Nat.le_trans o.ext.size hg.size, fun b hb => ?_⟩, fun x hx => ?_, o.lo, fun x hx b hb => Nat.lt_of_lt_of_le (o.hi x hx b hb) hg.size, o.dis⟩
  · rw [keep b (Nat.lt_of_lt_of_le hb o.ext.size) (fun e => by have := (hr b e.symm).1; omega)]
    exact o.ext.old b hb
  · exact x.loc _ _ (fun b hb => keep b (o.hi x hx b hb) (hne x hx b hb)) (o.sat x hx)

end Go.Proofs.YtfjajkgfgigodaaGreatDoor

/- Split of chapter 45. -/
namespace Go.Proofs.YtfjajkgfgigodaaGreatDoor
open Go Go.RowKit Go.Shelf

theorem parts_spec (t : List UInt8) (h : Heap) : SpecR Tryz.prog 87 [.string ⟨⟨t⟩⟩] h fun r h' => ∃ b, r = .func (.func 114) #[] #[.pointer (some ⟨b, 0, none⟩)] ∧ Own h [box b [.string ⟨⟨t⟩⟩] 9] h' := by
  refine Spec.enter Tryz.func87 rfl Tryz.ntmps87 (by kernel_rfl) ?_
  have o0 := Own.refl h
  (refine RunVC.boxO o0 rfl ?_; intro b10 m10 o10)
  refine StillVC.run (StillVC.makeFn ?_)
  refine RetVC.one rfl ?_
  exact ⟨_, rfl, o10⟩

abbrev s13 (t : List UInt8) (x2 : Value) (b3 : Nat) (x4 x5 x6 x7 x8 x9 x10 x11 x12 : Value) : List Value :=
  [.string ⟨⟨t⟩⟩, undef, x2, .pointer (some ⟨b3, 0, none⟩), x4, x5, x6, x7, x8, x9, x10, x11, x12]

abbrev its (b3 b1 : Nat) (v : Value) (t : List UInt8) (xs : List (List UInt8)) : List Item :=
  [box b3 [v] 22, row v 9 1 xs.length (strs xs), box b1 [.string ⟨⟨t⟩⟩] 9]

theorem opInR_value {k n : Nat} {P : Program} {dst : Option Tmp} {op : Op} {ty : TypeId} {pos : String} {after : Array Edge} {s : List Value} {ds : List Deferred} {w : World} {v : Value} {next : Act → World → Prop} {Q : Exit → Act → World → Prop}
    (hd : noDefer ⟨dst, op, ty, pos, after, none⟩ = true) (hrun : (execOp (ev s) ⟨none, op, ty, "", #[], none⟩).run P w = .ok (.value v) w) (hn : next (act (sput s dst v) ds) w) : Oper.wpIn (Fence.wide.inRound k) n P ⟨dst, op, ty, pos, after, none⟩ (act s ds) w next Q := by
  refine opIn_of_wp hd ?_
  unfold Oper.wp
  rw [act_eval, execOp_head, hrun, Oper.upon_value, act_sput]
  exact hn

/-- All blocks from n on that are no cells. -/
def others (H : Heap) (n : Nat) : Item where
  fp b := n ≤ b ∧ ∃ o : Obj, H[b]? = some o ∧ o.isCells = false
  sat h := ∀ (b : Nat) (o : Obj), n ≤ b → H[b]? = some o → o.isCells = false → h[b]? = some o
  loc _h _h' e hs b o hn hb ho := (e b ⟨hn, o, hb, ho⟩).trans (hs b o hn hb ho)

theorem its_cells {B : Base} {b3 b1 : Nat} {v : Value} {t : List UInt8} {xs : List (List UInt8)} {h : Heap} (o : Own B (its b3 b1 v t xs) h) : ∀ x ∈ its b3 b1 v t xs, ∀ b, x.fp b → ∃ c t f, h[b]? = some (.cells c t f) := by
  intro x hx b hb
  have hsat := o.sat x hx
  simp only [its, List.mem_cons, List.not_mem_nil, or_false] at hx
  rcases hx with rfl | rfl | rfl
  · have : b = b3 := hb
    subst this
    exact ⟨_, _, _, hsat⟩
  · obtain ⟨_, r⟩ := hsat
    have hb' : v.ownBlock = some b := hb
    rcases r with ⟨rfl, _⟩ | ⟨g, cap, cur, rfl, hg, _⟩
    · simp [Value.ownBlock] at hb'
    · simp only [Value.ownBlock, Option.some.injEq] at hb'
      subst hb'
      exact ⟨_, _, _, hg⟩
  · have : b = b1 := hb
    subst this
    exact ⟨_, _, _, hsat⟩

theorem Own.withOthers {h0 h : Heap} {b3 b1 : Nat} {v : Value} {t : List UInt8} {xs : List (List UInt8)} (o : Own h0 (its b3 b1 v t xs) h) : Own ⟨h0, [others h h0.size]⟩ (its b3 b1 v t xs) h := by
  have hc := its_cells o
  have o' := o.toR
  refine ⟨o'.ext, fun x hx => ?_, fun x hx b hb => ?_, fun x hx b hb => ?_, ?_⟩
  · rcases List.mem_append.1 hx with hx | hx
    · exact o'.sat x hx
    · simp only [List.mem_singleton] at hx; subst hx; exact fun b o _ hb _ => hb
  · rcases List.mem_append.1 hx with hx | hx
    · exact o'.lo x hx b hb
    · simp only [List.mem_singleton] at hx; subst hx; exact hb.1
  · rcases List.mem_append.1 hx with hx | hx
    · exact o'.hi x hx b hb
    · simp only [List.mem_singleton] at hx; subst hx
      obtain ⟨_, y, hy, _⟩ := hb
      exact (Array.getElem?_eq_some_iff.1 hy).1
  · refine List.pairwise_append.2 ⟨o'.dis, List.pairwise_singleton _ _, fun x hx y hy b hb hb' => ?_⟩
    simp only [List.mem_singleton] at hy; subst hy
    obtain ⟨c, tt, f, hcell⟩ := hc x hx b hb
    obtain ⟨_, y, hy, hyc⟩ := hb'
    rw [hcell] at hy
    injection hy with hy
    subst hy
    simp [Obj.isCells] at hyc

theorem Own.unframe {h0 h : Heap} {T L : List Item} (o : Own ⟨h0, T⟩ L h) : Own h0 L h :=
  OwnR.own ⟨OwnR.ext o, fun x hx => OwnR.sat o x (List.mem_append_left _ hx), fun x hx => OwnR.lo o x (List.mem_append_left _ hx), fun x hx => OwnR.hi o x (List.mem_append_left _ hx), (List.pairwise_append.1 (OwnR.dis o)).1⟩

theorem Own.rowEx {B : Base} {L : List Item} {h : Heap} {v : Value} {e : TypeId} {es n : Nat} {xs : List Value} (o : Own B L h) (k : Nat) (hk : L[k]? = some (row v e es n xs)) : ∃ r n c, v = .slice r n c := by
  obtain ⟨_, r⟩ := o.sat _ (List.mem_of_getElem? hk)
  rcases r with ⟨rfl, _⟩ | ⟨g, cap, cur, rfl, hg, _⟩
  · exact ⟨_, _, _, rfl⟩
  · exact ⟨_, _, _, rfl⟩

set_option maxRecDepth 100000 in
set_option maxHeartbeats 1600000 in
theorem split_spec (t : List UInt8) (h : Heap) (ht : TabH h) (hl : t.length ≤ 2199023255552) : SpecR Tryz.prog 52 [.string ⟨⟨t⟩⟩] h fun r h' => Own h [ro r (strs (splitL t))] h' := by
  refine ⟨⟨_, Tryz.func52, rfl, by kernel_rfl⟩, fun w hw => ?_⟩
  subst hw
  refine (callsIn_wide (n := 6)).1 (callsIn_of_wp_marks Tryz.func52 rfl trivial ?_ rfl)
  simp only [Tryz.ntmps52, List.size_toArray, List.length_cons, List.length_nil, Nat.reduceAdd, Nat.reduceSub, Array.replicate_succ, Array.replicate_zero, List.push_toArray, List.append_toArray, List.nil_append, List.cons_append]
  refine wpIn_seq (wpIn_mono (wpIn_wide.2 (vcode_sound (w0 := w) (ds := []) _ (onN (fun s' h' => s' = [.string ⟨⟨t⟩⟩, undef, .slice none 0 0, undef, undef, undef, undef, undef, undef, undef, undef, undef, undef] ∧ h' = w.heap) (fun _ _ _ => False)) [.string ⟨⟨t⟩⟩, undef, undef, undef, undef, undef, undef, undef, undef, undef, undef, undef, undef] w (.refl w) ?_)) ?_)
  · skip
    exact ⟨rfl, rfl⟩
  rintro e a1 w1 ⟨s1, rfl, hs1, hq⟩
  cases e with
  | normal =>
    obtain ⟨rfl, eh1⟩ := hq
    have o1 : Own w.heap [] w1.heap := by rw [eh1]; exact .refl _
    refine wpIn_seq (wpIn_mono (wpIn_wide.2 (vcode_sound (w0 := w1) (ds := []) _ (onN (fun s' h' => ∃ b3, s' = s13 t (.slice none 0 0) b3 undef undef undef undef undef undef undef undef undef ∧ Own w.heap [box b3 [.slice none 0 0] 22] h') (fun _ _ _ => False)) _ w1 (.refl w1) ?_)) ?_)
    · (refine RunVC.alloc o1 ty22 ?_; intro b20 m20 o20)
      exact ⟨_, rfl, o20⟩
    rintro e a2 w2 ⟨s2, rfl, hs2, hq⟩
    cases e with
    | normal =>
      obtain ⟨b3, rfl, o2⟩ := hq
      have ht2 : TabH w2.heap := ht.ext o2.ext
      refine wpIn_seq (wpIn_seq (wpIn_mono (wpIn_wide.2 (vcode_sound (w0 := w2) (ds := []) _ (onN (fun s' h' => ∃ b1, s' = s13 t (.slice none 0 0) b3 undef (.string ⟨⟨t⟩⟩) (.func (.func 114) #[] #[.pointer (some ⟨b1, 0, none⟩)]) undef undef undef undef undef undef ∧ Own w.heap [box b3 [.slice none 0 0] 22, box b1 [.string ⟨⟨t⟩⟩] 9] h') (fun _ _ _ => False)) _ w2 (.refl w2) ?_)) ?_))
      · skip
        refine CallVC.ret (parts_spec t _) ?_
        rintro _ h3 ⟨b1, rfl, oc⟩
        have o3 : Own w.heap [box b3 [.slice none 0 0] 22, box b1 [.string ⟨⟨t⟩⟩] 9] h3 := o2.call oc
        exact ⟨_, rfl, o3⟩
      rintro e a3 w3 ⟨s3, rfl, hs3, hq⟩
      cases e with
      | normal =>
        obtain ⟨b1, rfl, o3⟩ := hq
        have ht3 : TabH w3.heap := ht.ext o3.ext
        have o4 : Own w.heap (its b3 b1 (.slice none 0 0) t []) w3.heap := (o3.nilRow 9 1).sel [0, 2, 1] rfl
        have hS : Same w w3 := (hs1.trans hs2).trans hs3
        clear o1 o2 o3 hs1 hs2 hs3 eh1 ht2
        refine wpIn_block (wpIn_rangeFunc_ownF (n := 6) rfl (by decide) (gf := 114) (lb := #[.pointer (some ⟨b1, 0, none⟩)]) rfl trivial (enters_of Tryz.func114 (by kernel_rfl) rfl)
          (encs := fun x : List UInt8 => #[.string ⟨⟨x⟩⟩]) (Kp := KeepsWalks) (S := fun xs => xs = splitL t) (Sp := fun _ => True) (N := (splitL t).length) (w0 := w3)
          (seqStopsA_iff.1 (parts1_stops t b1 w3 (o4.hi _ (List.mem_of_getElem? (show (its b3 b1 (.slice none 0 0) t [])[2]? = some _ from rfl)) b1 rfl) (o4.cellB 2 rfl 0) ht3 (by omega)))
          walksK_t walksK_b (Below.refl _ _) (fun _ => rfl)
          (fun pre W => Same w W ∧ ∃ v, Own w.heap (its b3 b1 v t pre) W.heap) (fun _ _ _ => False) ?hI (fun _ _ _ _ _ hs _ _ => hs) ⟨hS, _, o4⟩
          (fun x => act (s13 t (.slice none 0 0) b3 (.string ⟨⟨x⟩⟩) (.string ⟨⟨t⟩⟩) (.func (.func 114) #[] #[.pointer (some ⟨b1, 0, none⟩)]) (.string ⟨⟨x⟩⟩) undef undef undef undef undef) []) ?assign ?body ?done ?stop)
        case hI =>
          rintro pre W W' rw ⟨hs, v, o⟩ hg hr
          refine ⟨hs.trans ⟨hg.os, hg.tape, hg.output, hg.size⟩, v, o.turned hg (fun r e => ⟨Nat.le_trans o4.ext.size (hr r e).1, (hr r e).2⟩) ?_⟩
          intro x hx
          exact its_cells o x (by simpa using hx)
        case assign =>
          intro l x W K hK
          refine wpIn_region ?_
          have key : ∀ a2 : Act, a2 = act (s13 t (.slice none 0 0) b3 undef (.string ⟨⟨t⟩⟩) (.func (.func 114) #[] #[.pointer (some ⟨b1, 0, none⟩)]) (.string ⟨⟨x⟩⟩) undef undef undef undef undef) [] →
              wpOpsIn (Fence.wide.inRound l) (6 - 1 - 1) Tryz.prog #[{ dst := some 4, op := Op.assign (Operand.tmp 7), type := 9, pos := "seal.go:119", after := #[], guard := none }] (Exit.then K fun _ _ _ => False) [0] a2 W := by
            rintro _ rfl
            refine wpOpsIn_cons rfl rfl (opInR_value rfl (v := .string ⟨⟨x⟩⟩) (by simp [execOp, ev, sget]) ?_)
            exact hK
          exact key _ (by simp [act])
        case body =>
          rintro l pre x W ⟨hs, v, o⟩ hlen
          have oF := o.withOthers
          have hpl : pre.length ≤ 2199023255600 := by have := splitL_len hl; omega
          generalize hB : (⟨w.heap, [others W.heap w.heap.size]⟩ : Base) = B' at oF
          refine wpIn_block (wpIn_mono (regionR (Q := onN (fun s' h' => ∃ v', Own B' (its b3 b1 v' t (pre ++ [x])) h') (fun _ _ _ => False)) rfl ?_) ?_)
          · have oF' : Own B' [box b3 [v] 22, row v 9 1 pre.length (strs pre), box b1 [.string ⟨⟨t⟩⟩] 9] W.heap := oF
            clear o oF
            refine StillVC.run (StillVC.loadO oF' 0 rfl ty22 rfl rfl ?_)
            (refine RunVC.lit oF' sl22 ty9 rfl rfl (by decide) (And.intro rfl ?_); intro b51 m51 o51)
            (refine RunVC.append o51 1 rfl sl22 ty9 (by decide) (o51.boxArr 3 rfl (by simp) (by simp)).toN (by simp [Value.oneCell']) (by simp only [maxLen]; first | omega | (simp; omega)) (by first | omega | (simp; omega)) ?_; intro v52 m52 o52)
            obtain ⟨r, n, c, rfl⟩ := o52.rowEx 1 rfl
            (refine RunVC.store o52 0 rfl ty22 rfl (by simp) (And.intro ⟨rfl, rfl⟩ ?_); intro m55 o55)
            exact ⟨_, by simpa [its, strs, pick] using o55.sel [0, 1, 2] rfl⟩
          · rintro e a4 w4 ⟨s4, rfl, hs4, hq4⟩
            cases e with
            | normal =>
              obtain ⟨v', o5⟩ := hq4
              subst hB
              have hoth : (others W.heap w.heap.size).sat w4.heap := OwnR.sat o5 _ (List.mem_append_right _ (by simp))
              have hko : KeepsOthers W w4 := ⟨hs4.size, fun k y hk hy => by
                by_cases hlt : k < w.heap.size
                · rw [o5.ext.old k hlt, ← o.ext.old k hlt]; exact hk
                · exact hoth k y (by omega) hk hy⟩
              exact ⟨hko, hko.walks, hs.trans hs4, v', o5.unframe⟩
            | _ => exact hq4.elim
        case done =>
          rintro D xs W hD rfl ⟨hs, v, o⟩ hK
          have hcD : ∀ z ∈ its b3 b1 v t (splitL t) ++ (Base.T ⟨w.heap, []⟩), ∀ b, z.fp b → ∃ c t f, W.heap[b]? = some (.cells c t f) := fun z hz => its_cells o z (by simpa using hz)
          refine wpIn_seq (wpIn_mono (wpIn_wide.2 (vcode_sound (w0 := W) (ds := [{ target := .collected D, args := #[] }]) _ (onN (fun s' h' => sget s' 2 = v ∧ h' = W.heap) (fun _ _ _ => False)) (s13 t (.slice none 0 0) b3 undef (.string ⟨⟨t⟩⟩) (.func (.func 114) #[] #[.pointer (some ⟨b1, 0, none⟩)]) undef undef undef undef undef undef) W (.refl W) ?_)) ?_)
          · have o' : Own w.heap [box b3 [v] 22, row v 9 1 (splitL t).length (strs (splitL t)), box b1 [.string ⟨⟨t⟩⟩] 9] W.heap := o
            clear o
            refine StillVC.run (StillVC.loadO o' 0 rfl ty22 rfl rfl ?_)
            exact ⟨rfl, rfl⟩
          · rintro e a5 w5 ⟨s5, rfl, hs5, hq5⟩
            cases e with
            | normal =>
              obtain ⟨e5, eh5⟩ := hq5
              refine wpIn_ret ?_
              have hK5 : w5.heap[D]? = some (.deferred (some [])) := by rw [eh5]; exact hK
              have o5 : Own w.heap (its b3 b1 v t (splitL t)) w5.heap := by rw [eh5]; exact o
              have o6 := o5.turned (grownBy_putObj' w5 D (.deferred none)) (fun r e => by
                injection e with e; subst e
                exact ⟨Nat.le_trans o4.ext.size hD, _, hK5, rfl⟩) (by rw [eh5]; exact hcD)
              refine ⟨by simp, .inl ⟨D, _, rfl, run_takeDeferred hK5, ?_⟩⟩
              refine ⟨v, ?_, ?_⟩
              · rw [results_tmp rfl]; show Result.ok (s5.toArray.getD 2 undef) _ = _; rw [show s5.toArray.getD 2 undef = sget s5 2 by rw [← sget_getD]; simp, e5]
              · refine ⟨((hs.trans hs5)).trans ?_, ?_⟩
                · exact ⟨rfl, rfl, rfl, by simp [World.putObj]⟩
                · have := (o6.sel [1] rfl).rowRo 0 rfl
                  exact this.sel [0] rfl
            | _ => exact hq5.elim
        case stop =>
          rintro D c pre W _ _ hf _
          exact hf.elim
      | _ => exact hq.elim
    | _ => exact hq.elim
  | _ => exact hq.elim

end Go.Proofs.YtfjajkgfgigodaaGreatDoor

/- Join of chapter 45, and the reference's Split and Join. -/
namespace Go.Proofs.YtfjajkgfgigodaaGreatDoor
open Go

theorem refSplit_spec (t : List UInt8) (h : Heap) (hl : t.length ≤ 2199023255552) : SpecR Tryz.prog 64 [.string ⟨⟨t⟩⟩] h fun r h' => Own h [ro r (strs (splitL t))] h' := by
  refine Spec.enter Tryz.func64 rfl Tryz.ntmps64 (by kernel_rfl) ?_
  refine StillVC.run (StillVC.lenS rfl str9 ?_)
  refine CallVC.ret (decimal_spec t.length _ (by omega)) ?_
  rintro _ h1 ⟨rfl, o1⟩
  have hd := decDigits_short t.length (by omega)
  have hw : wholeL t = Lib.decDigits t.length ++ [58] ++ t := rfl
  have hwl : (wholeL t).length ≤ 21 + t.length := by rw [hw]; simp; omega
  have o2 := o1.nilRow 9 1
  have hsl := splitL_len hl
  refine StillVC.run (StillVC.strAdd rfl rfl (by first | omega | (simp; omega)) ?_)
  refine StillVC.run (StillVC.strAdd rfl rfl (by first | omega | (simp; omega)) ?_)
  refine LoopVC.intro [3, 4, 11, 12, 13, 14, 15, 16, 17, 18, 19, 20] [3, 4] (fun vs hh => ∃ (s : List UInt8) (w : Value) (pre : List (List UInt8)), s.length ≤ 21 + t.length ∧ pre ++ chunks s = splitL t ∧ vs = [.string ⟨⟨s⟩⟩, w] ∧ Own h [row w 9 1 pre.length (strs pre)] hh) (fun vs _ => match vs with | [.string ⟨⟨l⟩⟩, _] => l.length | _ => 0) ?_ ?_
  · exact ⟨_, _, [], by simpa [hw] using hwl, rfl, rfl, o2⟩
  · clear o1 o2
    rintro vs junk h2 ⟨s, w, pre, hs, hp, rfl, o2⟩
    have hpl : pre.length ≤ 2199023255600 := by rw [← hp] at hsl; simp at hsl; omega
    by_cases hlt : 40 < s.length
    · have hc : pre ++ [s.take 40] ++ chunks (s.drop 40) = splitL t := by rw [← hp, chunks_gt hlt]; simp
      refine StillVC.run (StillVC.lenS rfl str9 ?_)
      refine Br.dec (fun c31 => ?_) (fun hc => absurd (by omega) hc)
      refine StillVC.run (StillVC.sliceS str9 rfl rfl ⟨_, rfl⟩ (by omega) (by omega) (by omega) ?_)
      (refine RunVC.lit o2 sl22 ty9 rfl rfl (by decide) (And.intro rfl ?_); intro b33 m33 o33)
      (refine RunVC.append o33 0 rfl sl22 ty9 (by decide) (o33.boxArr 1 rfl (by simp) (by simp)).toN (by simp [Value.oneCell']) (by simp only [maxLen]; first | omega | (simp; omega)) (by first | omega | (simp; omega)) ?_; intro v34 m34 o34)
      refine StillVC.run (StillVC.sliceS str9 rfl ⟨_, rfl⟩ rfl (by omega) (by omega) (by omega) ?_)
      refine ⟨rfl, ?_⟩
      have e1 : s.drop 40 = List.drop (Int.toNat 40) (List.take (↑s.length : Int).toNat s) := by simp
      rw [← e1]
      exact ⟨⟨s.drop 40, v34, pre ++ [s.take 40], by simp; omega, hc, rfl, by simpa [strs, pick] using o34.sel [0] rfl⟩, by simp; omega⟩
    · have hc : pre ++ [s] = splitL t := by rw [← hp, chunks_le (by omega)]
      refine StillVC.run (StillVC.lenS rfl str9 ?_)
      refine Br.dec (fun hc => absurd hc (by omega)) (fun c41 => ?_)
      (refine RunVC.lit o2 sl22 ty9 rfl rfl (by decide) (And.intro rfl ?_); intro b42 m42 o42)
      (refine RunVC.append o42 0 rfl sl22 ty9 (by decide) (o42.boxArr 1 rfl (by simp) (by simp)).toN (by simp [Value.oneCell']) (by simp only [maxLen]; first | omega | (simp; omega)) (by first | omega | (simp; omega)) ?_; intro v43 m43 o43)
      refine RetVC.one rfl ?_
      rw [← hc]
      have := (o43.sel [0] rfl).rowRo 0 rfl
      show Own h [ro v43 (strs (pre ++ [s]))] m43
      simpa [strs, pick] using this

set_option maxRecDepth 100000 in
theorem join_seal_spec (bs : List (List UInt8)) (v : Value) (h : Heap) (a0 : Arr h v (strs bs)) (hl : bs.length ≤ 1000000) (hs : bs.flatten.length ≤ 100000000) (ht : TabH h) :
    SpecR Tryz.prog 49 [v] h fun r h' => r = .tuple ⟨[.string ⟨⟨(joinR bs).1⟩⟩, .int .i64 (joinR bs).2]⟩ ∧ Own h [] h' := by
  refine Spec.enter Tryz.func49 rfl Tryz.ntmps49 (by kernel_rfl) ?_
  refine CallVC.ret (join_spec bs [] _ _ a0 (by omega) (by rw [join_empty]; omega)) ?_
  rintro _ h1 ⟨rfl, o1⟩
  rw [join_empty]
  refine CallVC.ret (cut_spec bs.flatten _ (by omega)) ?_
  rintro _ h2 ⟨rfl, oc⟩
  have o2 := o1.ext' oc
  clear oc
  have hj : joinR bs = if (cutR bs.flatten).2.2 = true ∧ splitL (cutR bs.flatten).2.1 = bs then ((cutR bs.flatten).2.1, 0) else ([], 4) := rfl
  have hlen : (cutR bs.flatten).2.1.length ≤ bs.flatten.length := by
    unfold cutR; split
    · simp
    · simp
  generalize (cutR bs.flatten).1 = x at *
  generalize (cutR bs.flatten).2.1 = y at *
  generalize (cutR bs.flatten).2.2 = ok at *
  cases ok with
  | false =>
    refine Br.tt ?_
    refine Br.tt ?_
    refine RetVC.two rfl ?_
    rw [hj]
    exact ⟨rfl, o2⟩
  | true =>
    refine Br.ff ?_
    refine CallVC.ret (split_spec y _ (ht.ext o2.ext) (by omega)) ?_
    rintro w h3 oc
    have o3 : Own h [ro w (strs (splitL y))] h3 := o2.call oc
    refine CallVC.ret (equal_spec (splitL y) bs _ _ _ (o3.roArr 0 rfl) (a0.ext o3.ext) (by have := splitL_len2 (t := y) (by omega); omega)) ?_
    rintro _ h4 ⟨rfl, od⟩
    have o4 : Own h [] h4 := (o3.ext' od).sel [] rfl
    by_cases he : splitL y = bs
    · rw [decide_eq_true he]
      refine Br.ff ?_
      refine RetVC.two rfl ?_
      rw [hj, if_pos ⟨rfl, he⟩]
      exact ⟨rfl, o4⟩
    · rw [decide_eq_false he]
      refine Br.tt ?_
      refine RetVC.two rfl ?_
      rw [hj, if_neg (fun hh => he hh.2)]
      exact ⟨rfl, o4⟩

set_option maxRecDepth 100000 in
set_option maxHeartbeats 1600000 in
theorem refJoin_spec (bs : List (List UInt8)) (v : Value) (h : Heap) (a0 : Arr h v (strs bs)) (hl : bs.length ≤ 1000000) (hs : bs.flatten.length ≤ 100000000) :
    SpecR Tryz.prog 99 [v] h fun r h' => r = .tuple ⟨[.string ⟨⟨(joinR bs).1⟩⟩, .int .i64 (joinR bs).2]⟩ ∧ Own h [] h' := by
  refine Spec.enter Tryz.func99 rfl Tryz.ntmps99 (by kernel_rfl) ?_
  have o0 := Own.refl h
  have ln : (strs bs).length = bs.length := by simp
  refine LoopVC.intro [4, 5, 7, 8, 9, 10, 11, 12, 13, 14, 15, 16, 17, 18] [4, 5] (fun vs hh => ∃ (i : Nat), i ≤ bs.length ∧ vs = [.string ⟨⟨(bs.take i).flatten⟩⟩, .int .i64 i] ∧ Own h [] hh) (fun vs _ => match vs with | [_, .int _ i] => bs.length - i.toNat | _ => 0) ?_ ?_
  · exact ⟨0, by omega, rfl, o0⟩
  · clear o0
    rintro vs junk h1 ⟨i, hi, rfl, o1⟩
    by_cases hlt : i < bs.length
    · obtain ⟨x, hx⟩ := getx hlt
      have hx2 : (bs.take (i + 1)).flatten = (bs.take i).flatten ++ x := by rw [List.take_add_one, hx]; simp
      have hx3 := take_flatten_le bs (i + 1)
      have hx4 : ((bs.take i).flatten ++ x).length ≤ 100000000 := by rw [← hx2]; omega
      rw [List.length_append] at hx4
      clear hx3
      refine StillVC.run (StillVC.lenAn (a0.ext o1.ext) (by assumption) sl22 ?_)
      refine Br.dec (fun c21 => ?_) (fun hc => absurd (by omega) hc)
      refine StillVC.run (StillVC.idx sl22 ty9 (a0.ext o1.ext) rfl (by omega) (by omega) ?_)
      refine StillVC.run (StillVC.loadM (a0.ext o1.ext) ty9 rfl (by first | assumption | rfl) ?_)
      refine StillVC.run (StillVC.strAdd rfl rfl (by first | omega | (simp; omega)) ?_)
      refine Ar.i64 (by omega) (by omega) ?_
      refine ⟨rfl, ?_⟩
      exact ⟨⟨i + 1, by omega, by rw [hx2]; rfl, o1⟩, by simp; omega⟩
    · obtain rfl : i = bs.length := by omega
      rw [List.take_length]
      generalize hall : bs.flatten = all at *
      refine StillVC.run (StillVC.lenAn (a0.ext o1.ext) (by assumption) sl22 ?_)
      refine Br.dec (fun hc => absurd hc (by omega)) (fun c31 => ?_)
      refine LoopVC.intro [2, 3, 6, 19, 20, 21, 22, 23, 24, 25, 26, 27, 28, 29, 30, 31, 32, 33, 34, 35, 36, 37, 38, 39, 40, 41, 42, 43, 44, 45] [6] (fun vs hh => ∃ (i : Nat), i ≤ all.length ∧ i ≤ 20 ∧ vs = [.int .i64 i] ∧ Own h [] hh ∧ ∀ j, j < i → ¬ (all[j]? = some 58 ∧ splitL (all.drop (j + 1)) = bs)) (fun vs _ => match vs with | [.int _ i] => all.length - i.toNat | _ => 0) ?_ ?_
      · exact ⟨0, by omega, by omega, rfl, o1, by omega⟩
      · clear o1
        rintro vs junk h2 ⟨i, hi, hi2, rfl, o2, hb⟩
        by_cases hlt : i < all.length
        · by_cases hlt2 : i < 20
          · obtain ⟨c, hc⟩ := getx hlt
            by_cases h58 : c = 58
            · subst h58
              have hdr : List.drop ((i : Int) + 1).toNat (List.take (all.length : Int).toNat all) = all.drop (i + 1) := by rw [show ((i : Int) + 1).toNat = i + 1 by omega]; simp
              have hdl : (all.drop (i + 1)).length ≤ all.length := by simp
              refine StillVC.run (StillVC.lenS rfl str9 ?_)
              refine Br.dec (fun c41 => ?_) (fun hc => absurd (by omega) hc)
              refine Br.dec (fun c42 => ?_) (fun hc => absurd (by omega) hc)
              refine StillVC.run (StillVC.strIdx rfl rfl str9 (by omega) (by assumption) ?_)
              refine Br.tt ?_
              refine Ar.i64 (by omega) (by omega) ?_
              refine StillVC.run (StillVC.sliceS str9 rfl ⟨_, rfl⟩ rfl (by omega) (by omega) (by omega) ?_)
              rw [hdr]
              refine CallVC.ret (refSplit_spec (all.drop (i + 1)) _ (by omega)) ?_
              rintro w h3 oc
              have o3 : Own h [ro w (strs (splitL (all.drop (i + 1))))] h3 := o2.call oc
              refine CallVC.ret (same_spec (splitL (all.drop (i + 1))) bs _ _ _ (o3.roArr 0 rfl) (a0.ext o3.ext) (by have := splitL_len2 (t := all.drop (i + 1)) (by omega); omega)) ?_
              rintro _ h4 ⟨rfl, od⟩
              have o4 : Own h [] h4 := (o3.ext' od).sel [] rfl
              by_cases he : splitL (all.drop (i + 1)) = bs
              · rw [decide_eq_true he]
                refine Br.tt ?_
                refine Ar.i64 (by omega) (by omega) ?_
                refine StillVC.run (StillVC.sliceS str9 rfl ⟨_, rfl⟩ rfl (by omega) (by omega) (by omega) ?_)
                refine RetVC.two rfl ?_
                rw [hdr]
                have := join_at (bs := bs) (i := i) (by rw [hall]; exact hc) (by rw [hall]; exact he)
                rw [this, hall]
                exact ⟨rfl, o4⟩
              · rw [decide_eq_false he]
                refine Br.ff ?_
                refine Ar.i64 (by omega) (by omega) ?_
                refine ⟨rfl, ?_⟩
                exact ⟨⟨i + 1, by omega, by omega, rfl, o4, fun j hj => by
                  by_cases hji : j = i
                  · subst hji; exact fun hh => he hh.2
                  · exact hb j (by omega)⟩, by simp; omega⟩
            · have h59 : c.toNat ≠ 58 := fun e => h58 (UInt8.toNat_inj.1 (by simpa using e))
              refine StillVC.run (StillVC.lenS rfl str9 ?_)
              refine Br.dec (fun c61 => ?_) (fun hc => absurd (by omega) hc)
              refine Br.dec (fun c62 => ?_) (fun hc => absurd (by omega) hc)
              refine StillVC.run (StillVC.strIdx rfl rfl str9 (by omega) (by assumption) ?_)
              refine Br.dec (fun hc => absurd hc (by omega)) (fun c64 => ?_)
              refine Br.ff ?_
              refine Ar.i64 (by omega) (by omega) ?_
              refine ⟨rfl, ?_⟩
              exact ⟨⟨i + 1, by omega, by omega, rfl, o2, fun j hj => by
                by_cases hji : j = i
                · subst hji; exact fun hh => h58 (by rw [hc] at hh; simpa using hh.1)
                · exact hb j (by omega)⟩, by simp; omega⟩
          · refine StillVC.run (StillVC.lenS rfl str9 ?_)
            refine Br.dec (fun c71 => ?_) (fun hc => absurd (by omega) hc)
            refine Br.dec (fun hc => absurd hc (by omega)) (fun c72 => ?_)
            refine RetVC.two rfl ?_
            have := join_none (bs := bs) (by rw [hall]; omega) (by rw [hall]; exact fun j _ hj => hb j (by omega))
            rw [this]
            exact ⟨rfl, o2⟩
        · refine StillVC.run (StillVC.lenS rfl str9 ?_)
          refine Br.dec (fun hc => absurd hc (by omega)) (fun c81 => ?_)
          refine Br.ff ?_
          refine RetVC.two rfl ?_
          have := join_none (bs := bs) (by rw [hall]; omega) (by rw [hall]; exact fun j hj _ => hb j (by omega))
          rw [this]
          exact ⟨rfl, o2⟩

end Go.Proofs.YtfjajkgfgigodaaGreatDoor
