/-
  Numbers in bytes, written and read, of chapter 45.
-/
import Derived.Test.YtihnelncimkegaaDoorStructs
import Derived.Test.YtihnelncimkegaaDoorFnSum
namespace Go.Proofs.YtihnelncimkegaaDoor
open Go

def fieldV (f : Nat × Nat) : List Value := [.int .i64 (f.1 : Int), .int .i64 (f.2 : Int)]

theorem bytes_append (a b : List UInt8) : bytes (a ++ b) = bytes a ++ bytes b := by simp

theorem pow256 (j : Nat) : 2 ^ (8 * j) = 256 ^ j := by rw [Nat.pow_mul]

theorem shr_byte (n k c : Nat) (hk : k ≤ 8) (hc : c < k) : ((n : Int) / 2 ^ (min (8 * ((k : Int) - 1 - c)).toNat IntKind.i64.bits)) % 256 = ((byteOf (n / 256 ^ (k - 1 - c))).toNat : Int) := by
  have e1 : (8 * ((k : Int) - 1 - c)).toNat = 8 * (k - 1 - c) := by omega
  have e2 : min (8 * (k - 1 - c)) IntKind.i64.bits = 8 * (k - 1 - c) := by
    have : IntKind.i64.bits = 64 := rfl
    omega
  rw [e1, e2, byteOf_toNat]
  have : (2 : Int) ^ (8 * (k - 1 - c)) = ((256 ^ (k - 1 - c) : Nat) : Int) := by
    rw [← pow256]; simp
  rw [this]
  simp

def fieldsB (fs : List (Nat × Nat)) : List UInt8 := fs.flatMap fun f => be f.2 f.1

theorem fieldsB_snoc {fs : List (Nat × Nat)} {j : Nat} {f : Nat × Nat} (h : fs[j]? = some f) : fieldsB (fs.take (j + 1)) = fieldsB (fs.take j) ++ be f.2 f.1 := by
  unfold fieldsB
  rw [List.take_add_one, h]; simp

theorem fieldsB_len {fs : List (Nat × Nat)} (h : ∀ f ∈ fs, f.2 ≤ 8) : (fieldsB fs).length ≤ 8 * fs.length := by
  unfold fieldsB
  induction fs with
  | nil => simp
  | cons f fs ih =>
    have := ih (fun g hg => h g (by simp [hg]))
    have h1 := h f (by simp)
    simp only [List.flatMap_cons, List.length_append, be_length, List.length_cons]
    omega

set_option maxHeartbeats 1600000 in
theorem write_spec (B : Base) (v : Value) (n : Nat) (xs : List Value) (b : Nat) (fs : List (Nat × Nat)) (h : Heap) (o : Own B [row v 5 1 n xs, box b (fs.flatMap fieldV) 42] h)
    (hfs : ∀ f ∈ fs, f.1 < 9223372036854775808 ∧ f.2 ≤ 8) (hfl : fs.length ≤ 10) (hn : n ≤ 1000000) :
    SpecR Tryd.prog 23 [v, .slice (some ⟨b, 0, none⟩) fs.length fs.length] h fun r h' => Own B [row r 5 1 (n + (fieldsB fs).length) (xs ++ bytes (fieldsB fs)), box b (fs.flatMap fieldV) 42] h' := by
  refine Spec.enter Tryd.func23 rfl Tryd.ntmps23 (by kernel_rfl) ?_
  have hlen : (fs.flatMap fieldV).length = fs.length * 2 := flat_length (f := fieldV) (sz := 2) (fun _ => rfl) fs
  refine StillVC.run (StillVC.lenV rfl sl52 ?_)
  refine LoopVC.intro [0, 6, 7, 10, 11, 12, 13, 14, 15, 16, 17, 18, 19, 20, 21, 22, 23, 24, 25, 26, 27, 28, 29, 30] [0, 10] (fun vs h1 => ∃ (j : Nat) (w : Value), j ≤ fs.length ∧ vs = [w, .int .i64 j] ∧ Own B [row w 5 1 (n + (fieldsB (fs.take j)).length) (xs ++ bytes (fieldsB (fs.take j))), box b (fs.flatMap fieldV) 42] h1) (fun vs _ => match vs with | [_, .int _ i] => fs.length - i.toNat | _ => 0) ?_ ?_
  · exact ⟨0, v, by omega, rfl, by simpa [fieldsB] using o⟩
  · clear o
    rintro vs junk h1 ⟨j, w, hj, rfl, o1⟩
    by_cases hlt : j < fs.length
    · obtain ⟨f, hf⟩ := getx hlt
      obtain ⟨hf1, hf2⟩ := hfs f (List.mem_of_getElem? hf)
      have sn := fieldsB_snoc hf
      have hl1 := fieldsB_len (fs := fs.take j) (fun g hg => (hfs g (List.mem_of_mem_take hg)).2)
      have hl2 : (fs.take j).length ≤ 10 := by simp; omega
      refine Br.dec (fun c20 => ?_) (fun hc => absurd (by omega) hc)
      refine StillVC.run (StillVC.idxN sl52 ty42 (o1.boxArrN 1 rfl (by assumption) (by omega)) rfl (by omega) (by omega) ?_)
      refine StillVC.run (StillVC.loadF (o1.boxArrN 1 rfl (by assumption) (by omega)) ty42 (fun _ => rfl) (by decide) rfl (by assumption) ?_)
      (refine RunVC.alloc o1 ty42 ?_; intro b23 m23 o23)
      (refine RunVC.storeL o23 2 rfl ty42 rfl (by decide) (And.intro ⟨rfl, rfl⟩ ?_); intro m24 o24)
      refine StillVC.run (StillVC.fieldAddr st42 rfl rfl rfl ?_)
      refine StillVC.run (StillVC.loadO o24 2 rfl ty3 rfl rfl ?_)
      refine Ar.i64 (by omega) (by omega) ?_
      refine LoopVC.intro [0, 7, 17, 18, 19, 20, 21, 22, 23, 24, 25, 26, 27, 28, 29] [0, 7] (fun vs h1 => ∃ (c : Nat) (w : Value), c ≤ f.2 ∧ vs = [w, .int .i64 ((f.2 : Int) - 1 - c)] ∧ Own B [row w 5 1 (n + (fieldsB (fs.take j)).length + c) (xs ++ bytes (fieldsB (fs.take j)) ++ bytes ((be f.2 f.1).take c)), box b (fs.flatMap fieldV) 42, box b23 [Value.int IntKind.i64 ↑f.1, Value.int IntKind.i64 ↑f.2] 42] h1) (fun vs _ => match vs with | [_, .int _ i] => (i + 1).toNat | _ => 0) ?_ ?_
      · exact ⟨0, w, by omega, by simp, by simpa using o24⟩
      · clear o24 o23 o1
        rintro vs junk h2 ⟨c, w2, hc, rfl, o2⟩
        by_cases hlt2 : c < f.2
        · have hb := shr_byte f.1 f.2 c hf2 hlt2
          have hg := be_get (n := f.1) hlt2
          refine Br.dec (fun c30 => ?_) (fun hc => absurd (by omega) hc)
          refine StillVC.run (StillVC.fieldAddr st42 rfl rfl rfl ?_)
          refine StillVC.run (StillVC.loadO o2 2 rfl ty3 rfl rfl ?_)
          refine Ar.i64 (by omega) (by omega) ?_
          refine StillVC.run (StillVC.shr rfl rfl (by omega) ?_)
          refine StillVC.run (StillVC.convI rfl int3 int5 ?_)
          refine Ar.u8w ?_
          (refine RunVC.lit o2 sl35 ty5 rfl rfl (by decide) (And.intro rfl ?_); intro b35 m35 o35)
          (refine RunVC.append o35 0 rfl sl35 ty5 (by decide) (o35.boxArr 3 rfl (by simp) (by simp)).toN (by simp [Value.oneCell']) (by simp only [maxLen]; first | omega | (simp; omega)) (by first | omega | (simp; omega)) ?_; intro v36 m36 o36)
          refine Ar.i64 (by omega) (by omega) ?_
          refine ⟨rfl, ?_⟩
          rw [hb] at o36
          have e : bytes ((be f.2 f.1).take (c + 1)) = bytes ((be f.2 f.1).take c) ++ [Value.int .u8 ((byteOf (f.1 / 256 ^ (f.2 - 1 - c))).toNat : Int)] := by
            rw [List.take_add_one, hg, bytes_append]; rfl
          refine ⟨⟨c + 1, v36, by omega, ?_, ?_⟩, by simp; omega⟩
          · have : (f.2 : Int) - 1 - c - 1 = (f.2 : Int) - 1 - ((c + 1 : Nat) : Int) := by omega
            rw [this]
          · rw [e, ← List.append_assoc]
            exact o36.sel [0, 1, 2] rfl
        · obtain rfl : c = f.2 := by omega
          rw [List.take_of_length_le (Nat.le_of_eq (be_length _ _))] at o2
          refine Br.dec (fun hc => absurd hc (by omega)) (fun c40 => ?_)
          refine Ar.i64 (by omega) (by omega) ?_
          refine ⟨rfl, ?_⟩
          refine ⟨⟨j + 1, w2, by omega, rfl, ?_⟩, by simp; omega⟩
          have e1 : n + (fieldsB (fs.take (j + 1))).length = n + (fieldsB (fs.take j)).length + f.2 := by rw [sn, List.length_append, be_length]; omega
          rw [e1, sn, bytes_append, ← List.append_assoc]
          exact o2.sel [0, 1] rfl
    · obtain rfl : j = fs.length := by omega
      rw [List.take_length] at o1
      refine Br.dec (fun hc => absurd hc (by omega)) (fun c50 => ?_)
      refine RetVC.one rfl ?_
      exact o1

end Go.Proofs.YtihnelncimkegaaDoor
