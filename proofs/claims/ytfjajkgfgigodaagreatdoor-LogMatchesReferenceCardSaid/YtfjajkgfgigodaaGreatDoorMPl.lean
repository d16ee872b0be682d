/-
  Sealed sectors and split texts, in plain Lean. A disk that may lose power, in plain Lean. A log on a disk, in plain Lean: heads, bodies, records, and what Open makes of the sectors. A log on a disk, in plain Lean: Open, Append and Rewrite, and that on a calm disk the log is found again. A log on a disk, in plain Lean: steps, power failures, rot and stale sectors, traces, foreign contents. A log on a disk, in plain Lean: rot, stale sectors, foreign contents, and many operations. A log on a disk, in plain Lean: many operations.
-/
import Derived.Test.YtfjajkgfgigodaaGreatDoorStructs
import Derived.Test.YtfjajkgfgigodaaGreatDoorDec
import Derived.Lib.Bytealg
import Derived.Lib.ItoaNum
import Derived.Lib.Join
import Derived.Lib.IndexLaws
/- Sealed sectors and split texts, in plain Lean. -/
namespace Go.Proofs.YtfjajkgfgigodaaGreatDoor
open Go

theorem digit_piece {u : Nat} (h : u < 10) : (List.take (u + 1) ([48, 49, 50, 51, 52, 53, 54, 55, 56, 57] : List UInt8)).drop u = [UInt8.ofNat (48 + u)] := by
  match u, h with
  | 0, _ => rfl
  | 1, _ => rfl
  | 2, _ => rfl
  | 3, _ => rfl
  | 4, _ => rfl
  | 5, _ => rfl
  | 6, _ => rfl
  | 7, _ => rfl
  | 8, _ => rfl
  | 9, _ => rfl

theorem nDigits_le : ∀ (k u : Nat), u < 10 ^ (k + 1) → Lib.nDigits u ≤ k + 1
  | 0, u, h => by
    rw [Lib.nDigits_small (by simpa using h)]
    omega
  | k + 1, u, h => by
    by_cases hu : u < 10
    · rw [Lib.nDigits_small hu]
      omega
    · rw [Lib.nDigits_big hu]
      have := nDigits_le k (u / 10) (by rw [Nat.pow_succ] at h; omega)
      omega

theorem decDigits_short (u : Nat) (h : u < 18446744073709551616) : (Lib.decDigits u).length ≤ 20 := by
  rw [Lib.decDigits_length]
  exact nDigits_le 19 u (by omega)

theorem itoa_short (n : Int) (h0 : -9223372036854775808 ≤ n) (h1 : n ≤ 9223372036854775807) : (Lib.itoa n).length ≤ 21 := by
  unfold Lib.itoa
  split
  · have := decDigits_short n.natAbs (by omega)
    simp
    omega
  · have := decDigits_short n.toNat (by omega)
    omega

theorem u8_lt (c : UInt8) : (c.toNat : Int) < 256 := by have := c.toNat_lt; omega

def sumL (l : List UInt8) : Int := l.foldl (fun s b => (s * 257 + b.toNat + 1) % 2147483647) 0

theorem sumL_snoc (l : List UInt8) (i : Nat) (c : UInt8) (hc : l[i]? = some c) : sumL (l.take (i + 1)) = (sumL (l.take i) * 257 + c.toNat + 1) % 2147483647 := by
  obtain ⟨hi, he⟩ := List.getElem?_eq_some_iff.1 hc
  rw [List.take_succ_eq_append_getElem hi, he]; simp [sumL]

theorem sumL_from (l : List UInt8) : ∀ s : Int, 0 ≤ s → s < 2147483647 → 0 ≤ l.foldl (fun (s : Int) (b : UInt8) => (s * 257 + b.toNat + 1) % 2147483647) s ∧ l.foldl (fun (s : Int) (b : UInt8) => (s * 257 + b.toNat + 1) % 2147483647) s < 2147483647 := by
  induction l with
  | nil => intro s h1 h2; exact ⟨h1, h2⟩
  | cons c l ih => intro s h1 h2; exact ih _ (Int.emod_nonneg _ (by decide)) (Int.emod_lt_of_pos _ (by decide))

theorem sumL_range (l : List UInt8) : 0 ≤ sumL l ∧ sumL l < 2147483647 := sumL_from l 0 (by decide) (by decide)

def placedB (e p : Int) : Bool := decide (0 ≤ e) && decide (e ≤ 1000000000) && decide (0 ≤ p) && decide (p < 4000)

def byteOf (n : Nat) : UInt8 := UInt8.ofNat (n % 256)

def be (k : Nat) (n : Nat) : List UInt8 := (List.range k).map fun i => byteOf (n / 256 ^ (k - 1 - i))

theorem byteOf_toNat (n : Nat) : (byteOf n).toNat = n % 256 := by
  unfold byteOf; rw [UInt8.toNat_ofNat']; omega

theorem be_length (k n : Nat) : (be k n).length = k := by simp [be]

theorem be_get {k n c : Nat} (h : c < k) : (be k n)[c]? = some (byteOf (n / 256 ^ (k - 1 - c))) := by simp [be, h]

/-- The number that bytes are. -/
def unbe (l : List UInt8) : Nat := l.foldl (fun n c => n * 256 + c.toNat) 0

theorem unbe_snoc (l : List UInt8) (c : UInt8) : unbe (l ++ [c]) = unbe l * 256 + c.toNat := by simp [unbe]

theorem be_succ (k n : Nat) : be (k + 1) n = be k (n / 256) ++ [byteOf n] := by
  unfold be
  rw [List.range_succ, List.map_append, List.map_singleton]
  congr 1
  · refine List.map_congr_left fun i hi => ?_
    have hi' : i < k := by simpa using hi
    have : k + 1 - 1 - i = (k - 1 - i) + 1 := by omega
    rw [this, Nat.pow_succ, Nat.mul_comm, Nat.div_div_eq_div_mul]
  · simp

theorem unbe_be (k : Nat) : ∀ n, n < 256 ^ k → unbe (be k n) = n := by
  induction k with
  | zero => intro n h; simp at h; subst h; rfl
  | succ k ih =>
    intro n h
    rw [be_succ, unbe_snoc, ih _ (by rw [Nat.pow_succ] at h; omega), byteOf_toNat]
    omega

theorem be_inj {k n m : Nat} (hn : n < 256 ^ k) (hm : m < 256 ^ k) (h : be k n = be k m) : n = m := by
  rw [← unbe_be k n hn, h, unbe_be k m hm]

theorem bytes_append (a b : List UInt8) : bytes (a ++ b) = bytes a ++ bytes b := by simp

theorem pow256 (j : Nat) : 2 ^ (8 * j) = 256 ^ j := by rw [Nat.pow_mul]

theorem shr_byte (n k c : Nat) (hk : k ≤ 8) (hc : c < k) : ((n : Int) / 2 ^ (min (8 * ((k : Int) - 1 - c)).toNat IntKind.i64.bits)) % 256 = ((byteOf (n / 256 ^ (k - 1 - c))).toNat : Int) := by
  have e1 : (8 * ((k : Int) - 1 - c)).toNat = 8 * (k - 1 - c) := by omega
  have e2 : min (8 * (k - 1 - c)) IntKind.i64.bits = 8 * (k - 1 - c) := by
    have : IntKind.i64.bits = 64 := rfl
    omega
  rw [e1, e2, byteOf_toNat]
  have : (2 : Int) ^ (8 * (k - 1 - c)) = ((256 ^ (k - 1 - c) : Nat) : Int) := by
    rw [← pow256]; simp
  rw [this]
  simp

def fieldsB (fs : List (Nat × Nat)) : List UInt8 := fs.flatMap fun f => be f.2 f.1

theorem fieldsB_snoc {fs : List (Nat × Nat)} {j : Nat} {f : Nat × Nat} (h : fs[j]? = some f) : fieldsB (fs.take (j + 1)) = fieldsB (fs.take j) ++ be f.2 f.1 := by
  unfold fieldsB
  rw [List.take_add_one, h]; simp

theorem fieldsB_len {fs : List (Nat × Nat)} (h : ∀ f ∈ fs, f.2 ≤ 8) : (fieldsB fs).length ≤ 8 * fs.length := by
  unfold fieldsB
  induction fs with
  | nil => simp
  | cons f fs ih =>
    have := ih (fun g hg => h g (by simp [hg]))
    have h1 := h f (by simp)
    simp only [List.flatMap_cons, List.length_append, be_length, List.length_cons]
    omega

theorem unbe_take (l : List UInt8) (i : Nat) (c : UInt8) (hc : l[i]? = some c) : unbe (l.take (i + 1)) = unbe (l.take i) * 256 + c.toNat := by
  obtain ⟨hi, he⟩ := List.getElem?_eq_some_iff.1 hc
  rw [List.take_succ_eq_append_getElem hi, he, unbe_snoc]

theorem unbe_foldl (l : List UInt8) : ∀ n : Nat, n ≤ l.foldl (fun (n : Nat) (c : UInt8) => n * 256 + c.toNat) n := by
  induction l with
  | nil => intro n; exact Nat.le_refl _
  | cons c l ih => intro n; exact Nat.le_trans (by omega) (ih (n * 256 + c.toNat))

theorem unbe_le (l : List UInt8) (i : Nat) : unbe (l.take i) ≤ unbe l := by
  have := unbe_foldl (l.drop i) (unbe (l.take i))
  have e : (l.drop i).foldl (fun (n : Nat) (c : UInt8) => n * 256 + c.toNat) (unbe (l.take i)) = unbe l := by
    unfold unbe
    rw [← List.foldl_append, List.take_append_drop]
  rwa [e] at this

theorem or_byte (n c : Nat) (hn : n < 16777216) (hc : c < 256) : bits .or .i64 ((n : Int) * 256) (c : Int) = (n : Int) * 256 + c := by
  have e1 : (BitVec.ofInt 64 ((n : Int) * 256)).toNat = n * 256 := by
    rw [BitVec.toNat_ofInt]; omega
  have e2 : (BitVec.ofInt 64 (c : Int)).toNat = c := by
    rw [BitVec.toNat_ofInt]; omega
  have e3 : n * 256 ||| c = n * 256 + c := by
    have := Nat.shiftLeft_add_eq_or_of_lt (i := 8) (b := c) (by omega) n
    rw [Nat.shiftLeft_eq] at this
    exact this.symm
  have e4 : (BitVec.ofInt 64 ((n : Int) * 256) ||| BitVec.ofInt 64 (c : Int)).toNat = n * 256 + c := by rw [BitVec.toNat_or, e1, e2, e3]
  have e5 : IntKind.i64.bits = 64 := rfl
  show IntKind.i64.wrap ((BitVec.ofInt 64 ((n : Int) * 256) ||| BitVec.ofInt 64 (c : Int)).toNat : Int) = _
  rw [e4]
  simp only [IntKind.wrap, IntKind.bits, IntKind.signed]
  simp
  omega

/-- The bytes ahead of the sum. -/
def preL (e p : Nat) (body : List UInt8) : List UInt8 := be 8 e ++ be 4 p ++ be 4 body.length ++ body ++ List.replicate (40 - body.length) 0

def putL (e p : Nat) (body : List UInt8) : List UInt8 := preL e p body ++ be 8 (sumL (preL e p body)).toNat

def putR (e p : Int) (body : List UInt8) : List UInt8 × Int := if placedB e p then (if body.length ≤ 40 then (putL e.toNat p.toNat body, 0) else ([], 3)) else ([], 1)

theorem preL_length {e p : Nat} {body : List UInt8} (h : body.length ≤ 40) : (preL e p body).length = 56 := by
  simp [preL, be_length]; omega

theorem placedB_spec {e p : Int} (h : placedB e p = true) : 0 ≤ e ∧ e ≤ 1000000000 ∧ 0 ≤ p ∧ p < 4000 := by
  simp [placedB] at h; omega

theorem be_zero1 : be 1 0 = [0] := by decide

theorem be_nat (k : Nat) {n : Int} (_hn : 0 ≤ n) : be k n.toNat = be k n.toNat := rfl

def e8 (l : List UInt8) : List UInt8 := (l.take 8).drop 0

def p4 (l : List UInt8) : List UInt8 := (l.take 12).drop 8

def n4 (l : List UInt8) : List UInt8 := (l.take 16).drop 12

def bodyOf (l : List UInt8) : List UInt8 := (l.take (16 + unbe (n4 l))).drop 16

/-- What a sector contains, if it is one: its epoch, its place, its body. -/
def okS (l : List UInt8) : Bool := decide (l.length = 64) && decide (unbe (n4 l) ≤ 40) && decide (putR (unbe (e8 l)) (unbe (p4 l)) (bodyOf l) = (l, 0))

def getR (e p : Int) (l : List UInt8) : List UInt8 × Int :=
  if placedB e p then (if okS l then (if (unbe (e8 l) : Int) = e ∧ (unbe (p4 l) : Int) = p then (bodyOf l, 0) else ([], 21)) else ([], 20)) else ([], 1)

theorem bytes_slice (l : List UInt8) (i j : Nat) : ((bytes l).drop i).take (j - i) = bytes ((l.take j).drop i) := by
  rw [List.drop_take, ← List.map_drop, ← List.map_take]

theorem unbe_lt (l : List UInt8) : unbe l < 256 ^ l.length := by
  have key : ∀ (l : List UInt8) (n m : Nat), n < 256 ^ m → l.foldl (fun (n : Nat) (c : UInt8) => n * 256 + c.toNat) n < 256 ^ (m + l.length) := by
    intro l
    induction l with
    | nil => intro n m h; exact h
    | cons c l ih =>
      intro n m h
      have hc := c.toNat_lt
      have := ih (n * 256 + c.toNat) (m + 1) (by rw [Nat.pow_succ]; omega)
      rwa [Nat.add_assoc, Nat.add_comm 1] at this
  have := key l 0 0 (by decide)
  rwa [Nat.zero_add] at this

theorem okS_spec {l : List UInt8} (h : okS l = true) : l.length = 64 ∧ unbe (n4 l) ≤ 40 ∧ putR (unbe (e8 l)) (unbe (p4 l)) (bodyOf l) = (l, 0) := by
  simpa [okS, and_assoc] using h

theorem putR_ok {e p : Int} {b l : List UInt8} (h : putR e p b = (l, 0)) : placedB e p = true ∧ b.length ≤ 40 ∧ l = putL e.toNat p.toNat b := by
  unfold putR at h
  split at h
  · rename_i h1
    split at h
    · rename_i h2
      simp only [Prod.mk.injEq, and_true] at h
      exact ⟨h1, h2, h.symm⟩
    · simp at h
  · simp at h

/-- What stands behind the first colon, if there is one. -/
def cutR (l : List UInt8) : List UInt8 × List UInt8 × Bool := if 0 ≤ Lib.indexByte l 58 then (l.take (Lib.indexByte l 58).toNat, l.drop ((Lib.indexByte l 58).toNat + 1), true) else (l, [], false)

theorem indexByte_range (l : List UInt8) (c : UInt8) : -1 ≤ Lib.indexByte l c ∧ (Lib.indexByte l c < l.length ∨ l = [] ∧ Lib.indexByte l c = -1) := by
  refine ⟨Lib.indexByte_ge l c, ?_⟩
  induction l with
  | nil => right; exact ⟨rfl, rfl⟩
  | cons b l ih =>
    left
    have hg := Lib.indexByte_ge l c
    simp only [Lib.indexByte, List.length_cons]
    split
    · omega
    · split
      · omega
      · rcases ih with ih | ⟨rfl, ih⟩
        · omega
        · rw [ih]; simp

theorem ne_at {α : Type} {a b : List α} {i : Nat} {x y : α} (hx : a[i]? = some x) (hy : b[i]? = some y) (h : ¬ x = y) : a ≠ b := by
  intro e
  rw [e, hy] at hx
  injection hx with hx
  exact h hx.symm

theorem take_eq_step {α : Type} {a b : List α} {i : Nat} {x : α} (hx : a[i]? = some x) (hy : b[i]? = some x) (h : a.take i = b.take i) : a.take (i + 1) = b.take (i + 1) := by
  rw [List.take_add_one, List.take_add_one, hx, hy, h]

def bytesB (ss : List (List UInt8)) : Bool := decide (ss.length ≤ 40) && ss.all fun s => decide (s.length ≤ 200)

def digs (u : Nat) : List UInt8 := if u = 0 then [] else Lib.decDigits u

theorem digs_step {u : Nat} (h : 0 < u) : digs u = digs (u / 10) ++ [UInt8.ofNat (48 + u % 10)] := by
  unfold digs
  rw [if_neg (by omega)]
  by_cases h10 : u < 10
  · rw [if_pos (by omega), Lib.decDigits, dif_pos h10, Nat.mod_eq_of_lt h10]; rfl
  · rw [if_neg (by omega), Lib.decDigits, dif_neg h10]

theorem digs_len (u : Nat) (h : u < 18446744073709551616) : (digs u).length ≤ 20 := by
  unfold digs
  split
  · simp
  · exact decDigits_short u h

def chunks (s : List UInt8) : List (List UInt8) := if _h : s.length ≤ 40 then [s] else s.take 40 :: chunks (s.drop 40)
termination_by s.length
decreasing_by simp; omega

theorem chunks_le {s : List UInt8} (h : s.length ≤ 40) : chunks s = [s] := by rw [chunks, dif_pos h]

theorem chunks_gt {s : List UInt8} (h : 40 < s.length) : chunks s = s.take 40 :: chunks (s.drop 40) := by rw [chunks, dif_neg (by omega)]

def wholeL (t : List UInt8) : List UInt8 := Lib.decDigits t.length ++ [58] ++ t

def splitL (t : List UInt8) : List (List UInt8) := chunks (wholeL t)

theorem itoa_nat (n : Nat) : Lib.itoa (n : Int) = Lib.decDigits n := Lib.itoa_nonneg n

theorem drop_head {α : Type} {l : List α} {i : Nat} {x : α} {r : List α} (h : l.drop i = x :: r) : i < l.length ∧ l.take (i + 1) = l.take i ++ [x] ∧ l.drop (i + 1) = r := by
  have hi : i < l.length := by
    rcases Nat.lt_or_ge i l.length with h' | h'
    · exact h'
    · rw [List.drop_of_length_le h'] at h; cases h
  rw [List.drop_eq_getElem_cons hi] at h
  injection h with h1 h2
  exact ⟨hi, by rw [List.take_succ_eq_append_getElem hi, h1], h2⟩

theorem chunks_len (s : List UInt8) : (chunks s).length ≤ s.length + 1 := by
  induction hn : s.length using Nat.strongRecOn generalizing s with
  | _ n ih =>
    by_cases h : s.length ≤ 40
    · rw [chunks_le h]; simp
    · rw [chunks_gt (by omega)]
      have := ih (s.drop 40).length (by simp; omega) (s.drop 40) rfl
      simp only [List.length_cons]
      simp at this
      omega

theorem splitL_len {t : List UInt8} (hl : t.length ≤ 2199023255552) : (splitL t).length ≤ 2199023255600 := by
  have h1 := chunks_len (wholeL t)
  have hd := decDigits_short t.length (by omega)
  have : (wholeL t).length ≤ 20 + 1 + t.length := by simp [wholeL]; omega
  unfold splitL; omega

theorem flatten_chunks (s : List UInt8) : (chunks s).flatten = s := by
  induction hn : s.length using Nat.strongRecOn generalizing s with
  | _ n ih =>
    by_cases h : s.length ≤ 40
    · rw [chunks_le h]; simp
    · rw [chunks_gt (by omega), List.flatten_cons, ih (s.drop 40).length (by simp; omega) (s.drop 40) rfl, List.take_append_drop]

theorem flatten_split (t : List UInt8) : (splitL t).flatten = wholeL t := flatten_chunks _

theorem join_empty (ss : List (List UInt8)) : Lib.join ss [] = ss.flatten := by
  cases ss with
  | nil => simp [Lib.join, List.intercalate]
  | cons x r =>
    rw [Lib.join_cons]
    simp [Lib.joinTail]

theorem index_at {D t : List UInt8} (h : (58 : UInt8) ∉ D) : Lib.indexByte (D ++ 58 :: t) 58 = D.length := by
  have hr := Lib.indexByte_ge (D ++ 58 :: t) 58
  by_cases hn : Lib.indexByte (D ++ 58 :: t) 58 = -1
  · exact absurd (by simp) (Lib.indexByte_none hn D.length)
  · obtain ⟨o, ho⟩ : ∃ o : Nat, Lib.indexByte (D ++ 58 :: t) 58 = o := ⟨(Lib.indexByte (D ++ 58 :: t) 58).toNat, by omega⟩
    obtain ⟨h1, h2⟩ := Lib.indexByte_some ho
    rw [ho]
    rcases Nat.lt_trichotomy o D.length with hlt | heq | hgt
    · rw [List.getElem?_append_left hlt] at h1
      exact absurd (List.mem_of_getElem? h1) h
    · rw [heq]
    · exact absurd (by simp) (h2 D.length hgt)

theorem cut_at {D t : List UInt8} (h : (58 : UInt8) ∉ D) : cutR (D ++ 58 :: t) = (D, t, true) := by
  unfold cutR
  rw [index_at h, if_pos (by omega)]
  simp

theorem cut_ok {l : List UInt8} (h : (cutR l).2.2 = true) : l = (cutR l).1 ++ 58 :: (cutR l).2.1 := by
  unfold cutR at h ⊢
  by_cases h0 : 0 ≤ Lib.indexByte l 58
  · rw [if_pos h0]
    obtain ⟨o, ho⟩ : ∃ o : Nat, Lib.indexByte l 58 = o := ⟨(Lib.indexByte l 58).toNat, by omega⟩
    obtain ⟨h1, -⟩ := Lib.indexByte_some ho
    rw [ho]
    simp only [Int.toNat_natCast]
    obtain ⟨hl, he⟩ := List.getElem?_eq_some_iff.1 h1
    conv => lhs; rw [← List.take_append_drop o l, List.drop_eq_getElem_cons hl, he]
  · rw [if_neg h0] at h; simp at h

theorem whole_eq (t : List UInt8) : wholeL t = Lib.decDigits t.length ++ 58 :: t := by simp [wholeL]

theorem cut_whole (t : List UInt8) : cutR (wholeL t) = (Lib.decDigits t.length, t, true) := by
  rw [whole_eq, cut_at (notMem_dec (by decide) _)]

/-- Join: the text of these bodies. -/
def joinR (bs : List (List UInt8)) : List UInt8 × Int :=
  if (cutR bs.flatten).2.2 = true ∧ splitL (cutR bs.flatten).2.1 = bs then ((cutR bs.flatten).2.1, 0) else ([], 4)

theorem joinR_split (t : List UInt8) : joinR (splitL t) = (t, 0) := by
  unfold joinR
  rw [flatten_split, cut_whole, if_pos ⟨rfl, rfl⟩]

theorem joinR_ok {bs : List (List UInt8)} {t : List UInt8} (h : joinR bs = (t, 0)) : bs = splitL t := by
  unfold joinR at h
  split at h
  · rename_i hh
    simp only [Prod.mk.injEq, and_true] at h
    rw [← h, hh.2]
  · simp at h

/-- A place at which the reference accepts is the place of the first colon. -/
theorem join_at {bs : List (List UInt8)} {i : Nat} (_h : bs.flatten[i]? = some 58) (hs : splitL (bs.flatten.drop (i + 1)) = bs) : joinR bs = (bs.flatten.drop (i + 1), 0) := by
  have := joinR_split (bs.flatten.drop (i + 1))
  rwa [hs] at this

theorem join_none {bs : List (List UInt8)} (hl : bs.flatten.length ≤ 1000000000000000) (h : ∀ i, i < bs.flatten.length → i < 20 → ¬ (bs.flatten[i]? = some 58 ∧ splitL (bs.flatten.drop (i + 1)) = bs)) : joinR bs = ([], 4) := by
  unfold joinR
  rw [if_neg]
  rintro ⟨h1, h2⟩
  have h3 := cut_ok h1
  generalize (cutR bs.flatten).1 = D at h3
  generalize (cutR bs.flatten).2.1 = t at h2 h3
  have h4 : bs.flatten = wholeL t := by rw [← h2, flatten_split]
  rw [whole_eq] at h4
  have hlen := congrArg List.length h4
  simp only [List.length_append, List.length_cons] at hlen
  have h5 : (Lib.decDigits t.length).length ≤ 19 := by
    rw [Lib.decDigits_length]
    exact nDigits_le 18 t.length (by omega)
  refine h (Lib.decDigits t.length).length (by omega) (by omega) ⟨by rw [h4]; simp, ?_⟩
  rw [h4]
  simpa using h2

theorem splitL_len2 {t : List UInt8} (hl : t.length ≤ 2199023255552) : (splitL t).length ≤ t.length + 22 := by
  have h1 := chunks_len (wholeL t)
  have hd := decDigits_short t.length (by omega)
  have : (wholeL t).length ≤ 20 + 1 + t.length := by simp [wholeL]; omega
  unfold splitL; omega

theorem flatten_short : ∀ {bs : List (List UInt8)} {n k : Nat}, bs.length ≤ n → (∀ s ∈ bs, s.length ≤ k) → bs.flatten.length ≤ n * k
  | [], _, _, _, _ => by simp
  | s :: bs, n, k, h, hs => by
    obtain ⟨m, rfl⟩ : ∃ m, n = m + 1 := ⟨n - 1, by simp at h; omega⟩
    have := flatten_short (bs := bs) (n := m) (k := k) (by simpa using h) fun s hm => hs s (by simp [hm])
    have h1 := hs s (by simp)
    rw [List.flatten_cons, List.length_append, Nat.succ_mul]
    omega

theorem take_flatten_le (bs : List (List UInt8)) (i : Nat) : (bs.take i).flatten.length ≤ bs.flatten.length := by
  conv => rhs; rw [← List.take_append_drop i bs, List.flatten_append, List.length_append]
  omega

theorem putL_shape (e p : Nat) (b : List UInt8) : putL e p b = be 8 e ++ (be 4 p ++ (be 4 b.length ++ (b ++ (List.replicate (40 - b.length) 0 ++ be 8 (sumL (preL e p b)).toNat)))) := by
  simp [putL, preL]

theorem putL_len {e p : Nat} {b : List UInt8} (h : b.length ≤ 40) : (putL e p b).length = 64 := by
  simp [putL, preL_length h, be_length]

theorem e8_put (e p : Nat) (b : List UInt8) : e8 (putL e p b) = be 8 e := by
  rw [putL_shape, e8, List.drop_zero, List.take_append_of_le_length (by simp [be_length]), List.take_of_length_le (by simp [be_length])]

theorem p4_put (e p : Nat) (b : List UInt8) : p4 (putL e p b) = be 4 p := by
  rw [putL_shape, p4, List.take_append, List.drop_append]
  simp only [be_length]
  rw [List.take_of_length_le (by simp [be_length]), List.drop_of_length_le (by simp [be_length]), List.nil_append, List.take_append_of_le_length (by simp [be_length]), List.take_of_length_le (by simp [be_length]), be_length]
  rfl

theorem n4_put (e p : Nat) (b : List UInt8) : n4 (putL e p b) = be 4 b.length := by
  rw [putL_shape, ← List.append_assoc, n4, List.take_append, List.drop_append]
  simp only [List.length_append, be_length]
  rw [List.take_of_length_le (by simp [be_length]), List.drop_of_length_le (by simp [be_length]), List.nil_append, List.take_append_of_le_length (by simp [be_length]), List.take_of_length_le (by simp [be_length]), List.length_append, be_length, be_length]
  rfl

theorem body_put {e p : Nat} {b : List UInt8} (h : b.length ≤ 40) : bodyOf (putL e p b) = b := by
  rw [bodyOf, n4_put, unbe_be 4 _ (by omega), putL_shape, ← List.append_assoc, ← List.append_assoc, List.take_append, List.drop_append]
  simp only [List.length_append, be_length]
  rw [List.take_of_length_le (by simp [be_length]), List.drop_of_length_le (by simp [be_length]), List.nil_append, List.take_append_of_le_length (by simp ), List.take_of_length_le (by simp )]
  simp [be_length]

theorem ok_put {e p : Int} {b : List UInt8} (hp : placedB e p = true) (h : b.length ≤ 40) : okS (putL e.toNat p.toNat b) = true ∧ (unbe (e8 (putL e.toNat p.toNat b)) : Int) = e ∧ (unbe (p4 (putL e.toNat p.toNat b)) : Int) = p ∧ bodyOf (putL e.toNat p.toNat b) = b := by
  have hb := placedB_spec hp
  have h1 : (unbe (e8 (putL e.toNat p.toNat b)) : Int) = e := by rw [e8_put, unbe_be 8 _ (by omega)]; omega
  have h2 : (unbe (p4 (putL e.toNat p.toNat b)) : Int) = p := by rw [p4_put, unbe_be 4 _ (by omega)]; omega
  refine ⟨?_, h1, h2, body_put h⟩
  unfold okS
  rw [h1, h2, body_put h, n4_put, unbe_be 4 _ (by omega), putL_len h]
  simp [putR, hp, h]

/-- What is got back from a sector that was put. -/
theorem get_put {e p o a : Int} {b : List UInt8} (hp : placedB e p = true) (h : b.length ≤ 40) : getR o a (putL e.toNat p.toNat b) = if placedB o a then (if e = o ∧ p = a then (b, 0) else ([], 21)) else ([], 1) := by
  obtain ⟨h1, h2, h3, h4⟩ := ok_put hp h
  unfold getR
  rw [h1, h2, h3, h4]
  simp

abbrev stepS (s : Int) (b : UInt8) : Int := (s * 257 + b.toNat + 1) % 2147483647

theorem fold_range (l : List UInt8) {s : Int} (h0 : 0 ≤ s) (h1 : s < 2147483647) : 0 ≤ l.foldl stepS s ∧ l.foldl stepS s < 2147483647 := sumL_from l s h0 h1

theorem fold_inj (l : List UInt8) : ∀ {s t : Int}, 0 ≤ s → s < 2147483647 → 0 ≤ t → t < 2147483647 → l.foldl stepS s = l.foldl stepS t → s = t := by
  induction l with
  | nil => intro s t _ _ _ _ h; exact h
  | cons c l ih =>
    intro s t h0 h1 h2 h3 h
    have := ih (s := stepS s c) (t := stepS t c) (Int.emod_nonneg _ (by decide)) (Int.emod_lt_of_pos _ (by decide)) (Int.emod_nonneg _ (by decide)) (Int.emod_lt_of_pos _ (by decide)) h
    unfold stepS at this
    omega

/-- The sums of texts that differ in exactly one byte differ. -/
theorem sum_one {A C : List UInt8} {x y : UInt8} (h : sumL (A ++ x :: C) = sumL (A ++ y :: C)) : x = y := by
  have e (z : UInt8) : sumL (A ++ z :: C) = C.foldl stepS (stepS (sumL A) z) := by simp [sumL, stepS]
  rw [e, e] at h
  have hA := sumL_range A
  have := fold_inj C (Int.emod_nonneg _ (by decide)) (Int.emod_lt_of_pos _ (by decide)) (Int.emod_nonneg _ (by decide)) (Int.emod_lt_of_pos _ (by decide)) h
  unfold stepS at this
  have hx := x.toNat_lt
  have hy := y.toNat_lt
  exact UInt8.toNat_inj.1 (by omega)

theorem set_split {l : List UInt8} {i : Nat} (hi : i < l.length) (c : UInt8) : l.set i c = l.take i ++ c :: l.drop (i + 1) := by
  rw [List.set_eq_take_append_cons_drop, if_pos hi]

theorem self_split {l : List UInt8} {i : Nat} {x : UInt8} (hi : l[i]? = some x) : l = l.take i ++ x :: l.drop (i + 1) := by
  obtain ⟨hl, he⟩ := List.getElem?_eq_some_iff.1 hi
  conv => lhs; rw [← List.take_append_drop i l, List.drop_eq_getElem_cons hl, he]

theorem sum_set {l : List UInt8} {i : Nat} {x c : UInt8} (hi : l[i]? = some x) (h : sumL (l.set i c) = sumL l) : c = x := by
  obtain ⟨hl, he⟩ := List.getElem?_eq_some_iff.1 hi
  rw [set_split hl] at h
  rw [show sumL l = sumL (l.take i ++ x :: l.drop (i + 1)) by rw [← self_split hi]] at h
  exact sum_one h

/-- A sector of which one byte is changed is damaged. -/
theorem rot {e p : Int} {b : List UInt8} (h : b.length ≤ 40) {i : Nat} {x c : UInt8} (hx : (putL e.toNat p.toNat b)[i]? = some x) (hc : c ≠ x) : okS ((putL e.toNat p.toNat b).set i c) = false := by
  rw [Bool.eq_false_iff]
  intro hk
  obtain ⟨-, h2, h3⟩ := okS_spec hk
  obtain ⟨hq, hbl, he⟩ := putR_ok h3
  generalize (unbe (e8 ((putL e.toNat p.toNat b).set i c)) : Int).toNat = e' at he
  generalize (unbe (p4 ((putL e.toNat p.toNat b).set i c)) : Int).toNat = p' at he
  generalize bodyOf ((putL e.toNat p.toNat b).set i c) = b' at he hbl
  have hA := preL_length (e := e.toNat) (p := p.toNat) h
  have hA' := preL_length (e := e') (p := p') hbl
  unfold putL at he hx
  have hs := sumL_range (preL e.toNat p.toNat b)
  have hs' := sumL_range (preL e' p' b')
  generalize preL e.toNat p.toNat b = A at *
  generalize preL e' p' b' = A' at *
  by_cases hi : i < 56
  · rw [List.set_append_left _ _ (by omega)] at he
    obtain ⟨h5, h6⟩ := List.append_inj he (by simp; omega)
    have := be_inj (by omega) (by omega) h6
    rw [List.getElem?_append_left (by omega)] at hx
    have h7 : sumL (A.set i c) = sumL A := by rw [h5]; omega
    exact hc (sum_set hx h7)
  · rw [List.set_append_right _ _ (by omega)] at he
    obtain ⟨h5, h6⟩ := List.append_inj he (by omega)
    rw [List.getElem?_append_right (by omega)] at hx
    subst h5
    rw [← h6] at hx
    obtain ⟨hl, -⟩ := List.getElem?_eq_some_iff.1 hx
    rw [List.getElem?_set_self (by simpa using hl)] at hx
    exact hc (by simpa using hx)

theorem get_rot {e p o a : Int} {b : List UInt8} (h : b.length ≤ 40) {i : Nat} {x c : UInt8} (hx : (putL e.toNat p.toNat b)[i]? = some x) (hc : c ≠ x) (hp : placedB o a = true) : getR o a ((putL e.toNat p.toNat b).set i c) = ([], 20) := by
  unfold getR
  rw [rot h hx hc, if_pos hp]; simp

/-- The number of places at which two texts differ. -/
def diffs : List UInt8 → List UInt8 → Nat
  | x :: a, y :: b => (if x = y then 0 else 1) + diffs a b
  | _, _ => 0

theorem diffs_snoc : ∀ {a b : List UInt8} (x y : UInt8), a.length = b.length → diffs (a ++ [x]) (b ++ [y]) = diffs a b + if x = y then 0 else 1
  | [], [], x, y, _ => by show (if x = y then 0 else 1) + 0 = 0 + _; omega
  | c :: a, d :: b, x, y, h => by
    simp only [List.cons_append, diffs]
    rw [diffs_snoc (a := a) (b := b) x y (by simpa using h)]
    omega

theorem diffs_le (a : List UInt8) : ∀ b, diffs a b ≤ a.length := by
  induction a with
  | nil => intro b; simp [diffs]
  | cons x a ih =>
    intro b
    cases b with
    | nil => simp [diffs]
    | cons y b => have := ih b; simp only [diffs, List.length_cons]; split <;> omega

theorem diffs_zero : ∀ {a b : List UInt8}, a.length = b.length → diffs a b = 0 → a = b
  | [], [], _, _ => rfl
  | x :: a, y :: b, h, hd => by
    simp only [diffs] at hd
    by_cases hxy : x = y
    · rw [if_pos hxy] at hd
      rw [hxy, diffs_zero (a := a) (b := b) (by simpa using h) (by omega)]
    · rw [if_neg hxy] at hd; omega

theorem diffs_one : ∀ {a b : List UInt8}, a.length = b.length → diffs a b = 1 → ∃ A x y C, a = A ++ x :: C ∧ b = A ++ y :: C ∧ x ≠ y
  | [], [], _, h => by simp [diffs] at h
  | x :: a, y :: b, h, hd => by
    simp only [diffs] at hd
    by_cases hxy : x = y
    · rw [if_pos hxy] at hd
      obtain ⟨A, u, v, C, e1, e2, e3⟩ := diffs_one (a := a) (b := b) (by simpa using h) (by omega)
      exact ⟨x :: A, u, v, C, by rw [e1]; rfl, by rw [e2, hxy]; rfl, e3⟩
    · rw [if_neg hxy] at hd
      exact ⟨[], x, y, a, rfl, by rw [diffs_zero (a := a) (b := b) (by simpa using h) (by omega)]; rfl, hxy⟩

theorem sums_differ {a b : List UInt8} (hl : a.length = b.length) (hd : diffs a b = 1) : sumL a ≠ sumL b := by
  obtain ⟨A, x, y, C, rfl, rfl, hxy⟩ := diffs_one hl hd
  exact fun h => hxy (sum_one h)

theorem chunks_shape (s : List UInt8) (hs : s ≠ []) : chunks s ≠ [] ∧ ∀ (i : Nat) (c : List UInt8), (chunks s)[i]? = some c → c.length ≤ 40 ∧ c ≠ [] ∧ (i + 1 < (chunks s).length → c.length = 40) := by
  induction hn : s.length using Nat.strongRecOn generalizing s with
  | _ n ih =>
    by_cases h : s.length ≤ 40
    · rw [chunks_le h]
      refine ⟨by simp, fun i c hc => ?_⟩
      cases i with
      | zero => simp at hc; subst hc; exact ⟨h, hs, by simp⟩
      | succ i => simp at hc
    · rw [chunks_gt (by omega)]
      refine ⟨by simp, fun i c hc => ?_⟩
      obtain ⟨i1, i2⟩ := ih (s.drop 40).length (by simp; omega) (s.drop 40) (fun e => by have := congrArg List.length e; simp at this; omega) rfl
      cases i with
      | zero =>
        simp at hc
        subst hc
        exact ⟨by simp; omega, fun e => by have := congrArg List.length e; simp at this; exact hs this, fun _ => by simp; omega⟩
      | succ i =>
        simp at hc
        obtain ⟨k1, k2, k3⟩ := i2 i c hc
        exact ⟨k1, k2, fun hh => k3 (by simp at hh; omega)⟩

theorem split_shape (t : List UInt8) : splitL t ≠ [] ∧ ∀ (i : Nat) (c : List UInt8), (splitL t)[i]? = some c → c.length ≤ 40 ∧ c ≠ [] ∧ (i + 1 < (splitL t).length → c.length = 40) :=
  chunks_shape (wholeL t) (by simp [wholeL])

theorem joinR_ne {bs : List (List UInt8)} {t : List UInt8} (h : bs ≠ splitL t) : joinR bs ≠ (t, 0) := fun e => h (joinR_ok e)

end Go.Proofs.YtfjajkgfgigodaaGreatDoor

/- A disk that may lose power, in plain Lean. -/
namespace Go.Proofs.YtfjajkgfgigodaaGreatDoor
open Go

/-- A disk: stable and elder sectors, writes that are not synchronized, whether it is off, and its alarm. -/
structure Dk where
  st : List (List UInt8)
  el : List (List UInt8)
  q : List (Nat × List UInt8)
  off : Bool
  arm : Option (Int × Int × Int)

abbrev zS : List UInt8 := List.replicate 64 0

def newD (n : Nat) : Dk := ⟨List.replicate n zS, List.replicate n zS, [], false, none⟩

def Dk.set (d : Dk) (s : Nat) (t : List UInt8) : Dk := { d with el := d.el.set s (d.st.getD s []), st := d.st.set s (t ++ (d.st.getD s []).drop t.length) }

def Dk.settle (d : Dk) (l : List (Nat × List UInt8)) : Dk := l.foldl (fun d p => d.set p.1 p.2) d

/-- The write that the power's failure tears. -/
def Dk.tear (d : Dk) (o : Option (Nat × List UInt8)) (b : Int) : Dk := match o with
  | some p => if 0 < b then d.set p.1 (p.2.take (min b 64).toNat) else d
  | none => d

def Dk.fail (d : Dk) (w b : Int) : Dk :=
  if d.off = true then d else { ((d.settle (d.q.take (min (max w 0) d.q.length).toNat)).tear d.q[(min (max w 0) d.q.length).toNat]? b) with q := [], off := true, arm := none }

def Dk.count (d : Dk) : Int × Dk := match d.arm with
  | none => (0, d)
  | some (a, w, b) => if 0 < a then (0, { d with arm := some (a - 1, w, b) }) else (19, d.fail w b)

def Dk.write (d : Dk) (s : Int) (t : List UInt8) : Int × Dk :=
  if d.off = true then (19, d) else if s < 0 ∨ (d.st.length : Int) ≤ s ∨ t.length ≠ 64 then (1, d) else Dk.count { d with q := d.q ++ [(s.toNat, t)] }

def lastQ (q : List (Nat × List UInt8)) (s : Nat) : Option (List UInt8) := (q.reverse.find? fun p => p.1 == s).map (·.2)

def Dk.look (d : Dk) (s : Nat) : List UInt8 := (lastQ d.q s).getD (d.st.getD s [])

def Dk.read (d : Dk) (s : Int) : List UInt8 × Int :=
  if d.off = true then ([], 19) else if s < 0 ∨ (d.st.length : Int) ≤ s then ([], 1) else (d.look s.toNat, 0)

def Dk.sync (d : Dk) : Int × Dk :=
  if d.off = true then (19, d) else match d.count with
    | (e, d1) => if e ≠ 0 then (e, d1) else (0, { d1.settle d1.q with q := [] })

def Dk.start (d : Dk) : Dk := { d with off := false, arm := none }

def Dk.armed (d : Dk) (a w b : Int) : Dk := if d.off = true then d else { d with arm := if 0 ≤ a then some (a, w, b) else none }

def Dk.rot (d : Dk) (s i m : Int) : Dk :=
  if 0 ≤ s ∧ s < d.st.length ∧ 0 ≤ i ∧ i < 64 ∧ 0 < m ∧ m < 256 then { d with st := d.st.set s.toNat ((d.st.getD s.toNat []).set i.toNat ((d.st.getD s.toNat []).getD i.toNat 0 ^^^ UInt8.ofNat m.toNat)) } else d

def Dk.stale (d : Dk) (s : Int) : Dk := if 0 ≤ s ∧ s < d.st.length then { d with st := d.st.set s.toNat (d.el.getD s.toNat []) } else d

/-- Writes to sectors, and a synchronization behind them. -/
def eachD : List (Nat × List UInt8) → Dk → Int × Dk
  | [], d => d.sync
  | p :: r, d => match d.write p.1 p.2 with
    | (e, d1) => if e ≠ 0 then (e, d1) else eachD r d1

def runD : List (List (Nat × List UInt8)) → Dk → Int × Dk
  | [], d => (0, d)
  | b :: r, d => match eachD b d with
    | (e, d1) => if e ≠ 0 then (e, d1) else runD r d1

/- A DISK THAT IS ON AND NOT ARMED -/
/-- A disk's shape: n sectors of 64 bytes. -/
structure Dk.Wf (d : Dk) (n : Nat) : Prop where
  st : d.st.length = n
  el : d.el.length = n
  s64 : ∀ i, i < n → (d.st.getD i []).length = 64
  e64 : ∀ i, i < n → (d.el.getD i []).length = 64

/-- On, nothing pending, no alarm. -/
structure Dk.Calm (d : Dk) : Prop where
  on : d.off = false
  q : d.q = []
  arm : d.arm = none

def InR (n : Nat) (ws : List (Nat × List UInt8)) : Prop := ∀ p ∈ ws, p.1 < n ∧ p.2.length = 64

theorem set_wf {d : Dk} {n s : Nat} {t : List UInt8} (h : d.Wf n) (hs : s < n) (ht : t.length ≤ 64) : (d.set s t).Wf n where
  st := by simp [Dk.set, h.st]
  el := by simp [Dk.set, h.el]
  s64 i hi := by
    have h1 := h.s64 s hs
    have h2 := h.s64 i hi
    simp only [Dk.set, List.getD_eq_getElem?_getD, List.getElem?_set] at h1 h2 ⊢
    by_cases hsi : s = i
    · subst hsi
      rw [if_pos rfl, if_pos (by rw [h.st]; exact hs)]
      simp [h1]; omega
    · rw [if_neg hsi]; exact h2
  e64 i hi := by
    have h1 := h.s64 s hs
    have h2 := h.e64 i hi
    simp only [Dk.set, List.getD_eq_getElem?_getD, List.getElem?_set] at h1 h2 ⊢
    by_cases hsi : s = i
    · subst hsi
      rw [if_pos rfl, if_pos (by rw [h.el]; exact hs)]
      simpa using h1
    · rw [if_neg hsi]; exact h2

theorem settle_wf : ∀ (ws : List (Nat × List UInt8)) {d : Dk} {n : Nat}, d.Wf n → InR n ws → (d.settle ws).Wf n
  | [], _, _, h, _ => h
  | p :: r, _, _, h, hr => settle_wf r (set_wf h (hr p (by simp)).1 (by rw [(hr p (by simp)).2]; exact Nat.le_refl _)) fun x hx => hr x (List.mem_cons_of_mem _ hx)

theorem settle_append (a b : List (Nat × List UInt8)) (d : Dk) : d.settle (a ++ b) = (d.settle a).settle b := by simp [Dk.settle]

theorem set_fields (d : Dk) (s : Nat) (t : List UInt8) : (d.set s t).q = d.q ∧ (d.set s t).off = d.off ∧ (d.set s t).arm = d.arm := ⟨rfl, rfl, rfl⟩

theorem settle_fields : ∀ (ws : List (Nat × List UInt8)) (d : Dk), (d.settle ws).q = d.q ∧ (d.settle ws).off = d.off ∧ (d.settle ws).arm = d.arm
  | [], _ => ⟨rfl, rfl, rfl⟩
  | p :: r, d => settle_fields r (d.set p.1 p.2)

theorem settle_calm {d : Dk} (ws : List (Nat × List UInt8)) (h : d.Calm) : (d.settle ws).Calm := by
  obtain ⟨h1, h2, h3⟩ := settle_fields ws d
  exact ⟨h2.trans h.on, h1.trans h.q, h3.trans h.arm⟩

/-- Settling does not see what is pending. -/
theorem settle_q : ∀ (ws : List (Nat × List UInt8)) (d : Dk) (q : List (Nat × List UInt8)), ({ d with q := q } : Dk).settle ws = { d.settle ws with q := q }
  | [], _, _ => rfl
  | p :: r, d, q => settle_q r (d.set p.1 p.2) q

theorem each_pending {n : Nat} : ∀ (ws : List (Nat × List UInt8)) (d : Dk), d.off = false → d.arm = none → d.st.length = n → InR n ws → eachD ws d = (0, { d.settle (d.q ++ ws) with q := [] })
  | [], d, h1, h2, _, _ => by
    unfold eachD Dk.sync
    rw [if_neg (by rw [h1]; decide)]
    unfold Dk.count
    rw [h2]
    simp
  | p :: r, d, h1, h2, h3, hr => by
    have hp := hr p (by simp)
    unfold eachD
    have hw : d.write p.1 p.2 = (0, { d with q := d.q ++ [p] }) := by
      unfold Dk.write
      rw [if_neg (by rw [h1]; decide), if_neg (by rw [h3]; have := hp.1; have := hp.2; omega)]
      unfold Dk.count
      rw [h2]
      rfl
    rw [hw]
    simp only [ne_eq, not_true_eq_false, if_false]
    rw [each_pending r { d with q := d.q ++ [p] } h1 h2 h3 fun x hx => hr x (List.mem_cons_of_mem _ hx)]
    simp only [settle_q, List.append_assoc, List.cons_append, List.nil_append]

theorem each_calm {n : Nat} {ws : List (Nat × List UInt8)} {d : Dk} (h : d.Calm) (hl : d.st.length = n) (hr : InR n ws) : eachD ws d = (0, d.settle ws) := by
  rw [each_pending ws d h.on h.arm hl hr, h.q, List.nil_append]
  have := (settle_fields ws d).1.trans h.q
  rw [show ({ d.settle ws with q := [] } : Dk) = d.settle ws from by rw [← this]]

theorem settle_len : ∀ (ws : List (Nat × List UInt8)) (d : Dk), (d.settle ws).st.length = d.st.length
  | [], _ => rfl
  | p :: r, d => (settle_len r (d.set p.1 p.2)).trans (by simp [Dk.set])

theorem run_calm {n : Nat} : ∀ {bs : List (List (Nat × List UInt8))} {d : Dk}, d.Calm → d.st.length = n → (∀ b ∈ bs, InR n b) → runD bs d = (0, d.settle bs.flatten)
  | [], _, _, _, _ => rfl
  | b :: r, d, h, hl, hr => by
    unfold runD
    rw [each_calm h hl (hr b (by simp))]
    simp only [ne_eq, not_true_eq_false, if_false]
    rw [run_calm (settle_calm b h) ((settle_len b d).trans hl) fun x hx => hr x (List.mem_cons_of_mem _ hx), List.flatten_cons, settle_append]

theorem look_calm {d : Dk} (h : d.Calm) (s : Nat) : d.look s = d.st.getD s [] := by
  unfold Dk.look lastQ
  rw [h.q]
  rfl

/-- What a sector holds after writes: the last one, or what was there. -/
theorem settle_get : ∀ (ws : List (Nat × List UInt8)) {d : Dk} {n : Nat} (s : Nat), d.Wf n → InR n ws → s < n → (d.settle ws).st.getD s [] = (lastQ ws s).getD (d.st.getD s [])
  | [], _, _, _, _, _, _ => rfl
  | p :: r, d, n, s, h, hr, hs => by
    have hp := hr p (by simp)
    show ((d.set p.1 p.2).settle r).st.getD s [] = _
    rw [settle_get r s (set_wf h hp.1 (by rw [hp.2]; exact Nat.le_refl _)) (fun x hx => hr x (List.mem_cons_of_mem _ hx)) hs]
    have e : lastQ (p :: r) s = (lastQ r s).or (if p.1 == s then some p.2 else none) := by
      unfold lastQ
      rw [List.reverse_cons, List.find?_append]
      cases hf : List.find? (fun p => p.1 == s) r.reverse with
      | some x => simp 
      | none =>
        simp only [Option.none_or, Option.map_none, List.find?_cons, List.find?_nil]
        cases hb : p.1 == s <;> simp
    rw [e]
    cases hl : lastQ r s with
    | some x => rfl
    | none =>
      simp only [Option.none_or, Option.getD_none]
      have h64 := h.s64 p.1 hp.1
      have hst := h.st
      simp only [Dk.set, List.getD_eq_getElem?_getD, List.getElem?_set] at h64 ⊢
      by_cases hps : p.1 = s
      · subst hps
        rw [if_pos rfl, if_pos (by omega)]
        simp [hp.2, h64]
      · rw [if_neg hps, if_neg (by simpa using hps)]
        rfl

end Go.Proofs.YtfjajkgfgigodaaGreatDoor

/- A log on a disk, in plain Lean: heads, bodies, records, and what Open makes of the sectors. -/
namespace Go.Proofs.YtfjajkgfgigodaaGreatDoor
open Go

/- DIGITS -/
/-- A number in w digits. -/
def dig : Nat → Nat → List UInt8
  | 0, _ => []
  | w + 1, n => dig w (n / 10) ++ [UInt8.ofNat (48 + n % 10)]

def isDig (c : UInt8) : Bool := decide (48 ≤ c.toNat) && decide (c.toNat ≤ 57)

def numL (l : List UInt8) : Nat := l.foldl (fun n c => n * 10 + (c.toNat - 48)) 0

theorem numL_snoc (l : List UInt8) (c : UInt8) : numL (l ++ [c]) = numL l * 10 + (c.toNat - 48) := by simp [numL]

theorem dig_len : ∀ (w n : Nat), (dig w n).length = w
  | 0, _ => rfl
  | w + 1, n => by rw [dig, List.length_append, dig_len w]; rfl

theorem dig_byte (n : Nat) : (UInt8.ofNat (48 + n % 10)).toNat = 48 + n % 10 := by
  rw [UInt8.toNat_ofNat']
  exact Nat.mod_eq_of_lt (by omega)

theorem dig_dig : ∀ (w n : Nat), ∀ c ∈ dig w n, isDig c = true
  | 0, _, c, h => by cases h
  | w + 1, n, c, h => by
    rw [dig] at h
    rcases List.mem_append.1 h with h | h
    · exact dig_dig w _ c h
    · simp at h
      subst h
      have := dig_byte n
      simp [isDig]
      omega

theorem num_dig : ∀ (w n : Nat), n < 10 ^ w → numL (dig w n) = n
  | 0, n, h => by simp at h; subst h; rfl
  | w + 1, n, h => by
    rw [dig, numL_snoc, num_dig w (n / 10) (by rw [Nat.pow_succ] at h; omega), dig_byte]
    omega

theorem snoc_ind {α : Type} {P : List α → Prop} (h0 : P []) (h1 : ∀ l a, P l → P (l ++ [a])) (l : List α) : P l := by
  have key : ∀ r : List α, P r.reverse := fun r => by
    induction r with
    | nil => exact h0
    | cons a r ih => rw [List.reverse_cons]; exact h1 _ _ ih
  have := key l.reverse
  rwa [List.reverse_reverse] at this

theorem num_lt (l : List UInt8) : (∀ c ∈ l, isDig c = true) → numL l < 10 ^ l.length ∧ dig l.length (numL l) = l := by
  refine snoc_ind (P := fun l => (∀ c ∈ l, isDig c = true) → numL l < 10 ^ l.length ∧ dig l.length (numL l) = l) (fun _ => ⟨by decide, rfl⟩) (fun l c ih => ?_) l
  · intro h
    obtain ⟨h1, h2⟩ := ih fun x hx => h x (by simp [hx])
    have hc := h c (by simp)
    simp only [isDig, Bool.and_eq_true, decide_eq_true_eq] at hc
    rw [numL_snoc, List.length_append]
    refine ⟨by rw [List.length_singleton, Nat.pow_succ]; omega, ?_⟩
    show dig l.length ((numL l * 10 + (c.toNat - 48)) / 10) ++ [UInt8.ofNat (48 + (numL l * 10 + (c.toNat - 48)) % 10)] = _
    rw [show (numL l * 10 + (c.toNat - 48)) / 10 = numL l by omega, h2, show 48 + (numL l * 10 + (c.toNat - 48)) % 10 = c.toNat by omega]
    simp

/- HEADS -/
structure St where
  num : Nat
  gen : Nat
  len : Nat

def digS (s : St) : List UInt8 := dig 9 s.num ++ dig 6 s.gen ++ dig 4 s.len

def headL (a : Nat) (s : St) : List UInt8 := putL 0 a (digS s ++ digS s)

/-- The numbers that a head has room for. -/
structure St.Fits (s : St) : Prop where
  num : s.num < 1000000000
  gen : s.gen < 1000000
  len : s.len < 10000

def stOf (b : List UInt8) : St := ⟨numL (b.take 9), numL ((b.take 15).drop 9), numL ((b.take 19).drop 15)⟩

def headB (b : List UInt8) : Bool := decide (b.length = 38) && decide (b.take 19 = b.drop 19) && b.all isDig

def parseH (a : Nat) (sec : List UInt8) (half : Nat) : Option St :=
  if (getR 0 a sec).2 = 0 ∧ headB (getR 0 a sec).1 = true ∧ (stOf (getR 0 a sec).1).len ≤ half then some (stOf (getR 0 a sec).1) else none

theorem digS_len (s : St) : (digS s).length = 19 := by simp [digS, dig_len]

theorem get_iff {e p : Int} {l b : List UInt8} (hp : placedB e p = true) : getR e p l = (b, 0) ↔ b.length ≤ 40 ∧ l = putL e.toNat p.toNat b := by
  constructor
  · intro h
    unfold getR at h
    rw [if_pos hp] at h
    split at h
    · rename_i ho
      split at h
      · rename_i he
        simp only [Prod.mk.injEq, and_true] at h
        subst h
        obtain ⟨_, _, h3⟩ := okS_spec ho
        obtain ⟨_, h4, h5⟩ := putR_ok h3
        refine ⟨h4, ?_⟩
        rw [he.1, he.2] at h5
        exact h5
      · simp at h
    · simp at h
  · rintro ⟨h1, rfl⟩
    rw [get_put hp h1, if_pos hp, if_pos ⟨rfl, rfl⟩]

theorem get_zero {e p : Int} {l : List UInt8} (h : (getR e p l).2 = 0) : getR e p l = ((getR e p l).1, 0) := by rw [← h]

theorem headB_iff {b : List UInt8} : headB b = true ↔ b.length = 38 ∧ b.take 19 = b.drop 19 ∧ ∀ c ∈ b, isDig c = true := by
  simp [headB, and_assoc]

theorem stOf_dig (s : St) (h : s.Fits) (r : List UInt8) : stOf (digS s ++ r) = s := by
  have e1 : (digS s ++ r).take 9 = dig 9 s.num := by
    unfold digS
    rw [List.append_assoc, List.append_assoc]
    exact List.take_left' (dig_len _ _)
  have e2 : ((digS s ++ r).take 15).drop 9 = dig 6 s.gen := by
    unfold digS
    rw [List.append_assoc, List.take_left' (by simp [dig_len])]
    exact List.drop_left' (dig_len _ _)
  have e3 : ((digS s ++ r).take 19).drop 15 = dig 4 s.len := by
    rw [List.take_left' (digS_len s)]
    unfold digS
    exact List.drop_left' (by simp [dig_len])
  unfold stOf
  rw [e1, e2, e3, num_dig 9 _ h.num, num_dig 6 _ h.gen, num_dig 4 _ h.len]

theorem headB_dig (s : St) : headB (digS s ++ digS s) = true := by
  rw [headB_iff]
  refine ⟨by simp [digS_len], ?_, fun c hc => ?_⟩
  · rw [List.take_left' (digS_len s), List.drop_left' (digS_len s)]
  · have : c ∈ digS s := by simpa using hc
    unfold digS at this
    simp only [List.mem_append] at this
    rcases this with (h | h) | h <;> exact dig_dig _ _ _ h

theorem body_of {b : List UInt8} (h : headB b = true) : (stOf b).Fits ∧ b = digS (stOf b) ++ digS (stOf b) := by
  obtain ⟨h1, h2, h3⟩ := headB_iff.1 h
  have p1 := num_lt (b.take 9) fun c hc => h3 c (List.mem_of_mem_take hc)
  have p2 := num_lt ((b.take 15).drop 9) fun c hc => h3 c (List.mem_of_mem_take (List.mem_of_mem_drop hc))
  have p3 := num_lt ((b.take 19).drop 15) fun c hc => h3 c (List.mem_of_mem_take (List.mem_of_mem_drop hc))
  have l1 : (b.take 9).length = 9 := by simp [h1]
  have l2 : ((b.take 15).drop 9).length = 6 := by simp [h1]
  have l3 : ((b.take 19).drop 15).length = 4 := by simp [h1]
  rw [l1] at p1
  rw [l2] at p2
  rw [l3] at p3
  refine ⟨⟨p1.1, p2.1, p3.1⟩, ?_⟩
  have e : digS (stOf b) = b.take 19 := by
    unfold digS stOf
    rw [p1.2, p2.2, p3.2]
    have a1 : b.take 9 ++ (b.take 15).drop 9 = b.take 15 := by
      conv => rhs; rw [← List.take_append_drop 9 (b.take 15)]
      rw [List.take_take]; rfl
    rw [a1]
    conv => rhs; rw [← List.take_append_drop 15 (b.take 19)]
    rw [List.take_take]; rfl
  rw [e]
  conv => rhs; rhs; rw [h2]
  exact (List.take_append_drop 19 b).symm

theorem placed0 {a : Nat} (h : a < 4000) : placedB 0 a = true := by
  simp [placedB]
  omega

/-- A head says a state exactly if it is the state's sector. -/
theorem parse_iff {a half : Nat} {sec : List UInt8} {s : St} (ha : a < 4000) : parseH a sec half = some s ↔ sec = headL a s ∧ s.Fits ∧ s.len ≤ half := by
  have hp := placed0 ha
  constructor
  · intro h
    unfold parseH at h
    split at h
    · rename_i hc
      obtain ⟨c1, c2, c3⟩ := hc
      obtain ⟨f, e⟩ := body_of c2
      injection h with h
      rw [h] at f e c3
      obtain ⟨_, g⟩ := (get_iff hp).1 (get_zero c1)
      refine ⟨?_, f, c3⟩
      rw [g, e]
      rfl
    · cases h
  · rintro ⟨rfl, f, c⟩
    have g : getR 0 a (headL a s) = (digS s ++ digS s, 0) := (get_iff hp).2 ⟨by simp [digS_len], rfl⟩
    unfold parseH
    rw [g]
    have e := stOf_dig s f (digS s)
    rw [if_pos ⟨rfl, headB_dig s, by rw [e]; exact c⟩, e]

/-- Two heads at one place are equal only for one state. -/
theorem headL_inj {a : Nat} {s t : St} (ha : a < 4000) (hs : s.Fits) (ht : t.Fits) (h : headL a s = headL a t) : s = t := by
  have h1 := (parse_iff (half := max s.len t.len) (s := s) ha).2 ⟨rfl, hs, by omega⟩
  have h2 := (parse_iff (half := max s.len t.len) (s := t) ha).2 ⟨rfl, ht, by omega⟩
  rw [h, h2] at h1
  exact (Option.some.inj h1).symm

theorem headL_len (a : Nat) (s : St) : (headL a s).length = 64 := putL_len (by simp [digS_len])

theorem sum_zero : okS zS = false := by decide +kernel

theorem parse_zero (a half : Nat) : parseH a zS half = none := by
  unfold parseH
  refine if_neg fun h => ?_
  have := h.1
  unfold getR at this
  rw [sum_zero] at this
  split at this <;> simp at this

/- BODIES -/
def bodsL (f : Nat → List UInt8) (gen frm : Nat) : Nat → Option (List (List UInt8))
  | 0 => some []
  | k + 1 => match bodsL f gen frm k with
    | none => none
    | some bs => if (getR gen (frm + k : Nat) (f (frm + k))).2 = 0 then some (bs ++ [(getR gen (frm + k : Nat) (f (frm + k))).1]) else none

theorem bods_iff {f : Nat → List UInt8} {gen frm : Nat} (hg : gen ≤ 1000000000) : ∀ {k : Nat} {bs : List (List UInt8)}, frm + k ≤ 4000 →
    (bodsL f gen frm k = some bs ↔ bs.length = k ∧ ∀ i b, bs[i]? = some b → b.length ≤ 40 ∧ f (frm + i) = putL gen (frm + i) b)
  | 0, bs, _ => by
    constructor
    · intro h; cases h; exact ⟨rfl, fun i b h => by simp at h⟩
    · rintro ⟨h, _⟩; rw [List.length_eq_zero_iff.1 h]; rfl
  | k + 1, bs, hk => by
    have hp : placedB gen (frm + k : Nat) = true := by simp [placedB]; omega
    have ih := fun bs => bods_iff (f := f) (frm := frm) hg (k := k) (bs := bs) (by omega)
    constructor
    · intro h
      unfold bodsL at h
      cases hb : bodsL f gen frm k with
      | none => rw [hb] at h; cases h
      | some cs =>
        rw [hb] at h
        simp only at h
        split at h
        · rename_i h0
          cases h
          obtain ⟨h1, h2⟩ := (ih cs).1 hb
          obtain ⟨h3, h4⟩ := (get_iff hp).1 (get_zero h0)
          refine ⟨by simp [h1], fun i b hi => ?_⟩
          by_cases hlt : i < cs.length
          · rw [List.getElem?_append_left hlt] at hi
            exact h2 i b hi
          · have : i = k := by
              have := (List.getElem?_eq_some_iff.1 hi).1
              simp at this; omega
            subst this
            rw [List.getElem?_append_right (by omega), h1] at hi
            simp at hi
            subst hi
            exact ⟨h3, h4⟩
        · cases h
    · rintro ⟨h1, h2⟩
      obtain ⟨cs, c, rfl⟩ : ∃ cs c, bs = cs ++ [c] := by
        rcases List.eq_nil_or_concat bs with rfl | ⟨cs, c, rfl⟩
        · simp at h1
        · exact ⟨cs, c, by simp⟩
      have hl : cs.length = k := by simpa using h1
      have hcs := (ih cs).2 ⟨hl, fun i b hi => h2 i b (by rw [List.getElem?_append_left (List.getElem?_eq_some_iff.1 hi).1]; exact hi)⟩
      obtain ⟨h3, h4⟩ := h2 k c (by rw [List.getElem?_append_right (by omega), hl]; simp)
      have g := (get_iff (e := (gen : Int)) (p := ((frm + k : Nat) : Int)) hp).2 ⟨h3, h4⟩
      unfold bodsL
      rw [hcs]
      simp only [g, if_true]

/- RECORDS -/
def firstJ (bs : List (List UInt8)) : Option Nat := (List.range bs.length).find? fun i => (joinR (bs.take (i + 1))).2 == 0

def recsL : Nat → List (List UInt8) → Option (List (List UInt8))
  | 0, bs => if bs = [] then some [] else none
  | f + 1, bs => if bs = [] then some [] else match firstJ bs with
    | none => none
    | some i => match recsL f (bs.drop (i + 1)) with
      | none => none
      | some l => some ((joinR (bs.take (i + 1))).1 :: l)

theorem split_at {D E t r : List UInt8} (hD : (58 : UInt8) ∉ D) (hE : (58 : UInt8) ∉ E) (h : D ++ 58 :: t = E ++ 58 :: r) : D = E ∧ t = r := by
  induction D generalizing E with
  | nil => cases E with
    | nil => simpa using h
    | cons e E => simp at h; exact absurd h.1 (by rintro rfl; simp at hE)
  | cons d D ih => cases E with
    | nil => simp at h; exact absurd h.1 (by rintro rfl; simp at hD)
    | cons e E =>
      simp only [List.cons_append, List.cons.injEq] at h
      obtain ⟨rfl, h⟩ := h
      obtain ⟨rfl, rfl⟩ := ih (E := E) (fun hx => hD (List.mem_cons_of_mem _ hx)) (fun hx => hE (List.mem_cons_of_mem _ hx)) h
      exact ⟨rfl, rfl⟩

theorem decD_num (n : Nat) : numL (Lib.decDigits n) = n := by
  induction n using Nat.strongRecOn with
  | ind n ih =>
    rw [Lib.decDigits]
    split
    · rename_i h
      simp [numL]
      omega
    · rename_i h
      rw [numL_snoc, ih (n / 10) (by omega), dig_byte]
      omega

/-- No beginning of a text's parts is a text's parts. -/
theorem split_prefix {t u : List UInt8} {i : Nat} (hi : i < (splitL t).length) (h : (splitL t).take i = splitL u) : False := by
  have h1 : ((splitL t).take i).flatten = wholeL u := by rw [h, flatten_split]
  have h2 : ((splitL t).take i).flatten ++ ((splitL t).drop i).flatten = wholeL t := by rw [← List.flatten_append, List.take_append_drop, flatten_split]
  rw [h1, whole_eq, whole_eq, List.append_assoc, List.cons_append] at h2
  obtain ⟨e1, e2⟩ := split_at (notMem_dec (by decide) _) (notMem_dec (by decide) _) h2
  have e3 : u.length = t.length := by rw [← decD_num u.length, e1, decD_num]
  have e4 : ((splitL t).drop i).flatten = [] := by
    have := congrArg List.length e2
    rw [List.length_append] at this
    exact List.length_eq_zero_iff.1 (by omega)
  obtain ⟨c, hc⟩ := getx hi
  have h5 := ((split_shape t).2 i c hc).2.1
  have h6 : c ∈ (splitL t).drop i := List.mem_of_getElem? (i := 0) (by rw [List.getElem?_drop]; exact hc)
  exact h5 (List.flatten_eq_nil_iff.1 e4 c h6)

theorem split_pos (t : List UInt8) : 0 < (splitL t).length := List.length_pos_iff.2 (split_shape t).1

theorem first_split (t : List UInt8) (r : List (List UInt8)) : firstJ (splitL t ++ r) = some ((splitL t).length - 1) := by
  have hp := split_pos t
  unfold firstJ
  rw [List.find?_range_eq_some]
  refine ⟨?_, by simp; omega, fun j hj => ?_⟩
  · rw [show (splitL t).length - 1 + 1 = (splitL t).length by omega, List.take_left, joinR_split]
    rfl
  · rw [Bool.not_eq_true', beq_eq_false_iff_ne]
    intro h0
    rw [List.take_append_of_le_length (by omega)] at h0
    have := joinR_ok (t := (joinR ((splitL t).take (j + 1))).1) (by rw [← h0])
    exact split_prefix (by omega) this

/-- Records are found again: bodies are those of records exactly if they are their parts. -/
theorem recs_iff : ∀ {f : Nat} {bs l : List (List UInt8)}, bs.length ≤ f → (recsL f bs = some l ↔ bs = l.flatMap splitL)
  | 0, bs, l, hf => by
    have : bs = [] := List.length_eq_zero_iff.1 (by omega)
    subst this
    unfold recsL
    rw [if_pos rfl]
    constructor
    · intro h; cases h; rfl
    · intro h
      cases l with
      | nil => rfl
      | cons t l =>
        rw [List.flatMap_cons] at h
        have := split_pos t
        have := congrArg List.length h
        simp at this
        omega
  | f + 1, bs, l, hf => by
    unfold recsL
    by_cases hb : bs = []
    · subst hb
      rw [if_pos rfl]
      constructor
      · intro h; cases h; rfl
      · intro h
        cases l with
        | nil => rfl
        | cons t l =>
          rw [List.flatMap_cons] at h
          have := split_pos t
          have := congrArg List.length h
          simp at this
          omega
    · rw [if_neg hb]
      constructor
      · intro h
        cases hj : firstJ bs with
        | none => rw [hj] at h; cases h
        | some i =>
          rw [hj] at h
          simp only at h
          cases hr : recsL f (bs.drop (i + 1)) with
          | none => rw [hr] at h; cases h
          | some m =>
            rw [hr] at h
            simp only [Option.some.injEq] at h
            subst h
            have h1 := List.find?_some hj
            have h2 := joinR_ok (t := (joinR (bs.take (i + 1))).1) (by rw [← (beq_iff_eq.1 h1)])
            have h3 := (recs_iff (by rw [List.length_drop]; omega)).1 hr
            rw [List.flatMap_cons, ← h2, ← h3, List.take_append_drop]
      · intro h
        cases l with
        | nil => exact absurd h hb
        | cons t l =>
          rw [List.flatMap_cons] at h
          have hp := split_pos t
          have hlen := congrArg List.length h
          rw [List.length_append] at hlen
          rw [h, first_split]
          simp only
          rw [show (splitL t).length - 1 + 1 = (splitL t).length by omega, List.drop_left, List.take_left, joinR_split, (recs_iff (by omega)).2 rfl]

end Go.Proofs.YtfjajkgfgigodaaGreatDoor

/- A log on a disk, in plain Lean: Open, Append and Rewrite, and that on a calm disk the log is found again. -/
namespace Go.Proofs.YtfjajkgfgigodaaGreatDoor
open Go

structure Lg where
  s : St
  n : Nat
  at_ : Nat
  list : List (List UInt8)
  broken : Bool

def halfN (n : Nat) : Nat := (n - 2) / 2
def startN (n gen : Nat) : Nat := 2 + gen % 2 * halfN n

/-- The present state, and the head that says it; none: the heads are damaged. -/
def pickH (f : Nat → List UInt8) (half : Nat) : Option (St × Nat) := match parseH 0 (f 0) half, parseH 1 (f 1) half with
  | some a, some b => if a.num = b.num ∧ ¬ (a.gen = b.gen ∧ a.len = b.len) then none else if b.num ≤ a.num then some (a, 0) else some (b, 1)
  | some a, none => some (a, 0)
  | none, some b => some (b, 1)
  | none, none => if f 0 ≠ zS ∧ f 1 ≠ zS then none else some (⟨0, 0, 0⟩, 0)

def openF (f : Nat → List UInt8) (n : Nat) : Except Int Lg := if n < 6 then .error 1 else match pickH f (halfN n) with
  | none => .error 20
  | some (s, a) => match bodsL f s.gen (startN n s.gen) s.len with
    | none => .error 20
    | some bs => match recsL bs.length bs with
      | none => .error 20
      | some l => .ok ⟨s, n, a, l, false⟩

def openL (d : Dk) : Except Int Lg := if d.off = true then .error 19 else openF d.look d.st.length

theorem fits_zero : (⟨0, 0, 0⟩ : St).Fits := ⟨by decide, by decide, by decide⟩

theorem pick_fits {f : Nat → List UInt8} {half : Nat} {s : St} {a : Nat} (h : pickH f half = some (s, a)) : s.Fits ∧ s.len ≤ half ∧ (a = 0 ∨ a = 1) := by
  unfold pickH at h
  have p0 : ∀ t, parseH 0 (f 0) half = some t → t.Fits ∧ t.len ≤ half := fun t ht => ((parse_iff (by decide)).1 ht).2
  have p1 : ∀ t, parseH 1 (f 1) half = some t → t.Fits ∧ t.len ≤ half := fun t ht => ((parse_iff (by decide)).1 ht).2
  cases h0 : parseH 0 (f 0) half with
  | some x =>
    cases h1 : parseH 1 (f 1) half with
    | some y =>
      rw [h0, h1] at h
      simp only at h
      split at h
      · cases h
      · split at h
        · cases h; exact ⟨(p0 _ h0).1, (p0 _ h0).2, .inl rfl⟩
        · cases h; exact ⟨(p1 _ h1).1, (p1 _ h1).2, .inr rfl⟩
    | none =>
      rw [h0, h1] at h
      cases h
      exact ⟨(p0 _ h0).1, (p0 _ h0).2, .inl rfl⟩
  | none =>
    cases h1 : parseH 1 (f 1) half with
    | some y =>
      rw [h0, h1] at h
      cases h
      exact ⟨(p1 _ h1).1, (p1 _ h1).2, .inr rfl⟩
    | none =>
      rw [h0, h1] at h
      simp only at h
      split at h
      · cases h
      · cases h; exact ⟨fits_zero, Nat.zero_le _, .inl rfl⟩

theorem start_le (n gen : Nat) (hn : 6 ≤ n) : 2 ≤ startN n gen ∧ startN n gen + halfN n ≤ n := by
  unfold startN halfN
  have : gen % 2 = 0 ∨ gen % 2 = 1 := by omega
  rcases this with h | h <;> rw [h] <;> omega

/-- The parts of records. -/
def partsL (l : List (List UInt8)) : List (List UInt8) := l.flatMap splitL

theorem parts_len (l : List (List UInt8)) : ∀ {i : Nat} {b : List UInt8}, (partsL l)[i]? = some b → b.length ≤ 40 := by
  intro i b h
  have hm := List.mem_of_getElem? h
  obtain ⟨t, _, hb⟩ := List.mem_flatMap.1 hm
  obtain ⟨j, hj, rfl⟩ := List.mem_iff_getElem.1 hb
  exact ((split_shape t).2 j _ (List.getElem?_eq_getElem hj)).1

/-- What Open says: the state that is picked, and the records whose parts stand in their sectors. -/
theorem open_iff {f : Nat → List UInt8} {n : Nat} {L : Lg} (h6 : 6 ≤ n) (h4 : n ≤ 4000) : openF f n = .ok L ↔ L.n = n ∧ L.broken = false ∧ pickH f (halfN n) = some (L.s, L.at_) ∧ L.s.len = (partsL L.list).length ∧
    ∀ i b, (partsL L.list)[i]? = some b → f (startN n L.s.gen + i) = putL L.s.gen (startN n L.s.gen + i) b := by
  unfold openF
  rw [if_neg (by omega)]
  constructor
  · intro h
    cases hp : pickH f (halfN n) with
    | none => rw [hp] at h; cases h
    | some x =>
      obtain ⟨s, a⟩ := x
      rw [hp] at h
      simp only at h
      obtain ⟨hf, hl, _⟩ := pick_fits hp
      have hst := start_le n s.gen h6
      cases hb : bodsL f s.gen (startN n s.gen) s.len with
      | none => rw [hb] at h; cases h
      | some bs =>
        rw [hb] at h
        simp only at h
        cases hr : recsL bs.length bs with
        | none => rw [hr] at h; cases h
        | some l =>
          rw [hr] at h
          cases h
          have h1 := (recs_iff (Nat.le_refl _)).1 hr
          obtain ⟨h2, h3⟩ := (bods_iff (by have := hf.gen; omega) (by omega)).1 hb
          refine ⟨rfl, rfl, rfl, ?_, fun i b hi => ?_⟩
          · show s.len = (l.flatMap splitL).length
            rw [← h1, h2]
          · have hi : bs[i]? = some b := by rw [h1]; exact hi
            exact (h3 i b hi).2
  · rintro ⟨h1, h2, h3, h4', h5⟩
    rw [h3]
    simp only
    obtain ⟨hf, hl, _⟩ := pick_fits h3
    have hst := start_le n L.s.gen h6
    have hb := (bods_iff (f := f) (gen := L.s.gen) (frm := startN n L.s.gen) (by have := hf.gen; omega) (k := L.s.len) (bs := partsL L.list) (by omega)).2 ⟨h4'.symm, fun i b hi => ⟨parts_len _ hi, h5 i b hi⟩⟩
    rw [hb]
    simp only
    rw [(recs_iff (Nat.le_refl _)).2 (show partsL L.list = L.list.flatMap splitL from rfl)]
    cases L
    simp only at h1 h2
    subst h1 h2
    rfl

/- WRITES -/
def blanks (l : List Nat) : List (Nat × List UInt8) := l.map fun i => (i, zS)
def datas (gen frm : Nat) (parts : List (List UInt8)) : List (Nat × List UInt8) := parts.zipIdx.map fun p => (frm + p.2, putL gen (frm + p.2) p.1)
def headW (a : Nat) (s : St) : List (Nat × List UInt8) := [(a, headL a s)]
def restS (n frm k : Nat) : List Nat := (List.range n).filter fun i => decide (2 ≤ i) && (decide (i < frm) || decide (frm + k ≤ i))

/-- Bodies behind one another, and both heads. -/
def putB (at_ frm : Nat) (s : St) (parts : List (List UInt8)) : List (List (Nat × List UInt8)) :=
  [blanks (List.range' frm parts.length), datas s.gen frm parts, headW (1 - at_) s, headW at_ s]

def appS (L : Lg) (r : List UInt8) : St := ⟨L.s.num + 1, L.s.gen, L.s.len + (splitL r).length⟩
def appB (L : Lg) (r : List UInt8) : List (List (Nat × List UInt8)) := putB L.at_ (startN L.n L.s.gen + L.s.len) (appS L r) (splitL r)
def rewS (L : Lg) (rs : List (List UInt8)) : St := ⟨L.s.num + 1, L.s.gen + 1, (partsL rs).length⟩
def rewB (L : Lg) (rs : List (List UInt8)) : List (List (Nat × List UInt8)) := putB L.at_ (startN L.n (L.s.gen + 1)) (rewS L rs) (partsL rs) ++
  [blanks (restS L.n (startN L.n (L.s.gen + 1)) (partsL rs).length), blanks (restS L.n (startN L.n (L.s.gen + 1)) (partsL rs).length), headW 0 (rewS L rs), headW 1 (rewS L rs)]

def appL (L : Lg) (d : Dk) (r : List UInt8) : Int × Lg × Dk :=
  if L.broken = true then (12, L, d) else if 2000 < r.length then (3, L, d) else if halfN L.n < L.s.len + (splitL r).length ∨ L.s.num = 999999999 then (18, L, d) else
  match runD (appB L r) d with
    | (e, d1) => if e ≠ 0 then (e, { L with broken := true }, d1) else (0, ⟨appS L r, L.n, 0, L.list ++ [r], false⟩, d1)

def rewL (L : Lg) (d : Dk) (rs : List (List UInt8)) : Int × Lg × Dk :=
  if L.broken = true then (12, L, d) else if (rs.any fun r => decide (2000 < r.length)) = true then (3, L, d) else if L.s.gen = 999999 then (18, L, d) else
  if halfN L.n < (partsL rs).length ∨ L.s.num = 999999999 then (18, L, d) else
  match runD (rewB L rs) d with
    | (e, d1) => if e ≠ 0 then (e, { L with broken := true }, d1) else (0, ⟨rewS L rs, L.n, 0, rs, false⟩, d1)

/-- A log that Open finds on a calm disk. -/
structure Inv (d : Dk) (L : Lg) : Prop where
  calm : d.Calm
  wf : d.Wf L.n
  n6 : 6 ≤ L.n
  n4 : L.n ≤ 4000
  op : openF (fun s => d.st.getD s []) L.n = .ok L

theorem lastQ_append (a b : List (Nat × List UInt8)) (s : Nat) : lastQ (a ++ b) s = (lastQ b s).or (lastQ a s) := by
  unfold lastQ
  rw [List.reverse_append, List.find?_append]
  cases List.find? (fun p => p.1 == s) b.reverse <;> simp

theorem lastQ_none {ws : List (Nat × List UInt8)} {s : Nat} (h : ∀ p ∈ ws, p.1 ≠ s) : lastQ ws s = none := by
  unfold lastQ
  rw [List.find?_eq_none.2 fun p hp => by simpa using h p (by simpa using hp)]
  rfl

theorem lastQ_mem {ws : List (Nat × List UInt8)} {s : Nat} {t : List UInt8} (h1 : ∃ p ∈ ws, p.1 = s) (h2 : ∀ p ∈ ws, p.1 = s → p.2 = t) : lastQ ws s = some t := by
  unfold lastQ
  cases hf : List.find? (fun p => p.1 == s) ws.reverse with
  | none =>
    obtain ⟨p, hp, hs⟩ := h1
    exact absurd hs (by simpa using List.find?_eq_none.1 hf p (by simpa using hp))
  | some p =>
    have h3 := List.find?_some hf
    have h4 := List.mem_of_find?_eq_some hf
    rw [Option.map_some, h2 p (by simpa using h4) (by simpa using h3)]

theorem blanks_mem {l : List Nat} {p : Nat × List UInt8} (h : p ∈ blanks l) : p.1 ∈ l ∧ p.2 = zS := by
  obtain ⟨i, hi, rfl⟩ := List.mem_map.1 h
  exact ⟨hi, rfl⟩

theorem datas_mem {gen frm : Nat} {parts : List (List UInt8)} {p : Nat × List UInt8} (h : p ∈ datas gen frm parts) : ∃ i b, parts[i]? = some b ∧ p = (frm + i, putL gen (frm + i) b) := by
  obtain ⟨⟨b, i⟩, hx, rfl⟩ := List.mem_map.1 h
  exact ⟨i, b, List.mem_zipIdx_iff_getElem?.1 hx, rfl⟩

theorem datas_last {gen frm i : Nat} {parts : List (List UInt8)} {b : List UInt8} (h : parts[i]? = some b) : lastQ (datas gen frm parts) (frm + i) = some (putL gen (frm + i) b) := by
  refine lastQ_mem ⟨_, List.mem_map.2 ⟨(b, i), List.mem_zipIdx_iff_getElem?.2 h, rfl⟩, rfl⟩ fun p hp hs => ?_
  obtain ⟨j, c, hj, rfl⟩ := datas_mem hp
  have hij : j = i := by simpa using hs
  subst hij
  rw [hj] at h
  cases h
  rfl

theorem putB_in {at_ frm n : Nat} {s : St} {parts : List (List UInt8)} (ha : at_ = 0 ∨ at_ = 1) (h2 : 2 ≤ n) (hf : frm + parts.length ≤ n) (hp : ∀ (i : Nat) (b : List UInt8), parts[i]? = some b → b.length ≤ 40) : ∀ ws ∈ putB at_ frm s parts, InR n ws := by
  intro ws hws p hp'
  simp only [putB, List.mem_cons, List.not_mem_nil, or_false] at hws
  rcases hws with rfl | rfl | rfl | rfl
  · obtain ⟨h, h'⟩ := blanks_mem hp'
    rw [List.mem_range'_1] at h
    exact ⟨by omega, by rw [h']; rfl⟩
  · obtain ⟨i, b, hb, rfl⟩ := datas_mem hp'
    have := (List.getElem?_eq_some_iff.1 hb).1
    exact ⟨by simp; omega, putL_len (hp i b hb)⟩
  · simp only [headW, List.mem_singleton] at hp'
    subst hp'
    exact ⟨by simp only; omega, headL_len _ _⟩
  · simp only [headW, List.mem_singleton] at hp'
    subst hp'
    exact ⟨by simp only; omega, headL_len _ _⟩

theorem putB_head {at_ frm a : Nat} {s : St} {parts : List (List UInt8)} (ha : at_ = 0 ∨ at_ = 1) (hc : a = 0 ∨ a = 1) : lastQ (putB at_ frm s parts).flatten a = some (headL a s) := by
  simp only [putB, List.flatten_cons, List.flatten_nil, List.append_nil]
  rw [← List.append_assoc, lastQ_append]
  have : lastQ (headW (1 - at_) s ++ headW at_ s) a = some (headL a s) := by
    refine lastQ_mem ?_ fun p hp hs => ?_
    · rcases ha with rfl | rfl <;> rcases hc with rfl | rfl <;> simp [headW]
    · simp only [headW, List.mem_append, List.mem_singleton] at hp
      rcases hp with rfl | rfl
      · simp only at hs; subst hs; rfl
      · simp only at hs; subst hs; rfl
  rw [this]
  rfl

theorem putB_data {at_ frm i : Nat} {s : St} {parts : List (List UInt8)} {b : List UInt8} (ha : at_ = 0 ∨ at_ = 1) (h2 : 2 ≤ frm) (hb : parts[i]? = some b) : lastQ (putB at_ frm s parts).flatten (frm + i) = some (putL s.gen (frm + i) b) := by
  simp only [putB, List.flatten_cons, List.flatten_nil, List.append_nil]
  rw [lastQ_append, lastQ_append, datas_last hb, lastQ_none]
  · rfl
  · intro p hp
    simp only [headW, List.mem_append, List.mem_singleton] at hp
    rcases hp with rfl | rfl <;> simp only <;> omega

theorem putB_other {at_ frm k : Nat} {s : St} {parts : List (List UInt8)} (ha : at_ = 0 ∨ at_ = 1) (h2 : 2 ≤ k) (hk : k < frm ∨ frm + parts.length ≤ k) : lastQ (putB at_ frm s parts).flatten k = none := by
  refine lastQ_none fun p hp => ?_
  simp only [putB, List.flatten_cons, List.flatten_nil, List.append_nil, List.mem_append] at hp
  rcases hp with hp | hp | hp | hp
  · have := (blanks_mem hp).1
    rw [List.mem_range'_1] at this
    omega
  · obtain ⟨i, b, hb, rfl⟩ := datas_mem hp
    have := (List.getElem?_eq_some_iff.1 hb).1
    simp only
    omega
  · simp only [headW, List.mem_singleton] at hp
    subst hp
    simp only
    omega
  · simp only [headW, List.mem_singleton] at hp
    subst hp
    simp only
    omega

/-- Both heads say one state: it is picked. -/
theorem pick_both {f : Nat → List UInt8} {half : Nat} {s : St} (h0 : f 0 = headL 0 s) (h1 : f 1 = headL 1 s) (hs : s.Fits) (hl : s.len ≤ half) : pickH f half = some (s, 0) := by
  unfold pickH
  rw [(parse_iff (by decide)).2 ⟨h0, hs, hl⟩, (parse_iff (by decide)).2 ⟨h1, hs, hl⟩]
  simp

theorem parts_append (l m : List (List UInt8)) : partsL (l ++ m) = partsL l ++ partsL m := by simp [partsL]

theorem parts_one (r : List UInt8) : partsL [r] = splitL r := by simp [partsL]

theorem Inv.open' {d : Dk} {L : Lg} (h : Inv d L) : openL d = .ok L := by
  unfold openL
  rw [if_neg (by rw [h.calm.on]; decide), h.wf.st]
  have : d.look = fun s => d.st.getD s [] := funext fun s => look_calm h.calm s
  rw [this]
  exact h.op

/-- An append on a calm disk. -/
theorem app_inv {d : Dk} {L : Lg} {r : List UInt8} (h : Inv d L) (hlen : L.s.len + (splitL r).length ≤ halfN L.n) (hnum : L.s.num ≠ 999999999) :
    runD (appB L r) d = (0, d.settle (appB L r).flatten) ∧ Inv (d.settle (appB L r).flatten) ⟨appS L r, L.n, 0, L.list ++ [r], false⟩ := by
  obtain ⟨_, hbk, hp, hl, hd⟩ := (open_iff h.n6 h.n4).1 h.op
  obtain ⟨hf, hl2, ha⟩ := pick_fits hp
  have hst := start_le L.n L.s.gen h.n6
  have hin : ∀ ws ∈ appB L r, InR L.n ws := putB_in ha (by have := h.n6; omega) (by show startN L.n L.s.gen + L.s.len + (splitL r).length ≤ L.n; omega) fun i b hb => ((split_shape r).2 i b hb).1
  have hinf : InR L.n (appB L r).flatten := fun p hp => by
    obtain ⟨ws, h1, h2⟩ := List.mem_flatten.1 hp
    exact hin ws h1 p h2
  have hget := fun s hs => settle_get (appB L r).flatten s h.wf hinf hs
  refine ⟨run_calm h.calm h.wf.st hin, settle_calm _ h.calm, settle_wf _ h.wf hinf, h.n6, h.n4, ?_⟩
  have hn := h.n6
  refine (open_iff h.n6 h.n4).2 ⟨rfl, rfl, ?_, ?_, fun i b hi => ?_⟩
  · refine pick_both ?_ ?_ ⟨by have := hf.num; simp only [appS]; omega, hf.gen, ?_⟩ hlen
    · rw [hget 0 (by omega), appB, putB_head ha (.inl rfl)]; rfl
    · rw [hget 1 (by omega), appB, putB_head ha (.inr rfl)]; rfl
    · have : halfN L.n ≤ 2000 := by unfold halfN; have := h.n4; omega
      simp only [appS]
      omega
  · simp only [appS]
    rw [parts_append, parts_one, List.length_append, hl]
  · rw [parts_append, parts_one] at hi
    by_cases hlt : i < (partsL L.list).length
    · rw [List.getElem?_append_left hlt] at hi
      show (d.settle (appB L r).flatten).st.getD (startN L.n L.s.gen + i) [] = _
      rw [hget _ (by omega), appB, putB_other ha (by omega) (.inl (by omega))]
      exact hd i b hi
    · rw [List.getElem?_append_right (by omega)] at hi
      have hlt2 := (List.getElem?_eq_some_iff.1 hi).1
      show (d.settle (appB L r).flatten).st.getD (startN L.n L.s.gen + i) [] = _
      have e : startN L.n L.s.gen + i = startN L.n L.s.gen + L.s.len + (i - (partsL L.list).length) := by omega
      rw [hget _ (by omega), e, appB, putB_data ha (by omega) hi]
      show putL L.s.gen (startN L.n L.s.gen + L.s.len + (i - (partsL L.list).length)) b = putL L.s.gen (startN L.n L.s.gen + i) b
      rw [e]

theorem rest_mem {n frm k i : Nat} : i ∈ restS n frm k ↔ i < n ∧ 2 ≤ i ∧ (i < frm ∨ frm + k ≤ i) := by
  simp [restS]

theorem rewB_in {L : Lg} {rs : List (List UInt8)} (ha : L.at_ = 0 ∨ L.at_ = 1) (h2 : 2 ≤ L.n) (hf : startN L.n (L.s.gen + 1) + (partsL rs).length ≤ L.n) : ∀ ws ∈ rewB L rs, InR L.n ws := by
  intro ws hws
  unfold rewB at hws
  rcases List.mem_append.1 hws with hws | hws
  · exact putB_in ha h2 hf (fun i b hb => parts_len rs hb) ws hws
  · intro p hp
    simp only [List.mem_cons, List.not_mem_nil, or_false] at hws
    rcases hws with rfl | rfl | rfl | rfl
    · obtain ⟨h, h'⟩ := blanks_mem hp
      exact ⟨(rest_mem.1 h).1, by rw [h']; rfl⟩
    · obtain ⟨h, h'⟩ := blanks_mem hp
      exact ⟨(rest_mem.1 h).1, by rw [h']; rfl⟩
    · simp only [headW, List.mem_singleton] at hp
      subst hp
      exact ⟨by simp only; omega, headL_len _ _⟩
    · simp only [headW, List.mem_singleton] at hp
      subst hp
      exact ⟨by simp only; omega, headL_len _ _⟩

/-- What follows a rewrite's heads. -/
def tailB (L : Lg) (rs : List (List UInt8)) : List (Nat × List UInt8) :=
  blanks (restS L.n (startN L.n (L.s.gen + 1)) (partsL rs).length) ++ (blanks (restS L.n (startN L.n (L.s.gen + 1)) (partsL rs).length) ++ (headW 0 (rewS L rs) ++ headW 1 (rewS L rs)))

theorem rewB_flat (L : Lg) (rs : List (List UInt8)) : (rewB L rs).flatten = (putB L.at_ (startN L.n (L.s.gen + 1)) (rewS L rs) (partsL rs)).flatten ++ tailB L rs := by
  unfold rewB tailB
  rw [List.flatten_append]
  simp

theorem tailB_head {L : Lg} {rs : List (List UInt8)} {a : Nat} (hc : a = 0 ∨ a = 1) : lastQ (tailB L rs) a = some (headL a (rewS L rs)) := by
  unfold tailB
  refine lastQ_mem ?_ fun p hp hs => ?_
  · rcases hc with rfl | rfl
    · exact ⟨(0, headL 0 (rewS L rs)), by simp [headW], rfl⟩
    · exact ⟨(1, headL 1 (rewS L rs)), by simp [headW], rfl⟩
  · simp only [List.mem_append] at hp
    rcases hp with hp | hp | hp | hp
    · have := (rest_mem.1 (blanks_mem hp).1).2.1
      omega
    · have := (rest_mem.1 (blanks_mem hp).1).2.1
      omega
    · simp only [headW, List.mem_singleton] at hp
      subst hp
      simp only at hs
      subst hs
      rfl
    · simp only [headW, List.mem_singleton] at hp
      subst hp
      simp only at hs
      subst hs
      rfl

theorem tailB_data {L : Lg} {rs : List (List UInt8)} {k : Nat} (h2 : 2 ≤ k) (h1 : startN L.n (L.s.gen + 1) ≤ k) (h3 : k < startN L.n (L.s.gen + 1) + (partsL rs).length) : lastQ (tailB L rs) k = none := by
  unfold tailB
  refine lastQ_none fun p hp => ?_
  simp only [List.mem_append] at hp
  rcases hp with hp | hp | hp | hp
  · have := (rest_mem.1 (blanks_mem hp).1).2.2
    omega
  · have := (rest_mem.1 (blanks_mem hp).1).2.2
    omega
  · simp only [headW, List.mem_singleton] at hp
    subst hp
    simp only
    omega
  · simp only [headW, List.mem_singleton] at hp
    subst hp
    simp only
    omega

/-- A rewrite on a calm disk. -/
theorem rew_inv {d : Dk} {L : Lg} {rs : List (List UInt8)} (h : Inv d L) (hlen : (partsL rs).length ≤ halfN L.n) (hnum : L.s.num ≠ 999999999) (hgen : L.s.gen ≠ 999999) :
    runD (rewB L rs) d = (0, d.settle (rewB L rs).flatten) ∧ Inv (d.settle (rewB L rs).flatten) ⟨rewS L rs, L.n, 0, rs, false⟩ := by
  obtain ⟨_, hbk, hp, hl, hd⟩ := (open_iff h.n6 h.n4).1 h.op
  obtain ⟨hf, hl2, ha⟩ := pick_fits hp
  have hst := start_le L.n (L.s.gen + 1) h.n6
  have hn := h.n6
  have hin : ∀ ws ∈ rewB L rs, InR L.n ws := rewB_in ha (by omega) (by omega)
  have hinf : InR L.n (rewB L rs).flatten := fun p hp => by
    obtain ⟨ws, h1, h2⟩ := List.mem_flatten.1 hp
    exact hin ws h1 p h2
  have hget := fun s hs => settle_get (rewB L rs).flatten s h.wf hinf hs
  refine ⟨run_calm h.calm h.wf.st hin, settle_calm _ h.calm, settle_wf _ h.wf hinf, h.n6, h.n4, ?_⟩
  refine (open_iff h.n6 h.n4).2 ⟨rfl, rfl, ?_, rfl, fun i b hi => ?_⟩
  · refine pick_both ?_ ?_ ⟨by have := hf.num; simp only [rewS]; omega, by have := hf.gen; simp only [rewS]; omega, ?_⟩ hlen
    · rw [hget 0 (by omega), rewB_flat, lastQ_append, tailB_head (.inl rfl)]; rfl
    · rw [hget 1 (by omega), rewB_flat, lastQ_append, tailB_head (.inr rfl)]; rfl
    · have : halfN L.n ≤ 2000 := by unfold halfN; have := h.n4; omega
      simp only [rewS]
      omega
  · have hlt := (List.getElem?_eq_some_iff.1 hi).1
    show (d.settle (rewB L rs).flatten).st.getD (startN L.n (L.s.gen + 1) + i) [] = _
    rw [hget _ (by simp only at hlt; omega), rewB_flat, lastQ_append, tailB_data (by omega) (by omega) (by simp only at hlt; omega), putB_data ha (by omega) hi]
    rfl

theorem app_ok {d : Dk} {L : Lg} {r : List UInt8} (h : Inv d L) (hr : r.length ≤ 2000) (hlen : L.s.len + (splitL r).length ≤ halfN L.n) (hnum : L.s.num ≠ 999999999) :
    ∃ d1, appL L d r = (0, ⟨appS L r, L.n, 0, L.list ++ [r], false⟩, d1) ∧ Inv d1 ⟨appS L r, L.n, 0, L.list ++ [r], false⟩ := by
  obtain ⟨h1, h2⟩ := app_inv h hlen hnum
  have hb := ((open_iff h.n6 h.n4).1 h.op).2.1
  refine ⟨_, ?_, h2⟩
  unfold appL
  rw [if_neg (by rw [hb]; decide), if_neg (by omega), if_neg (by omega), h1]
  simp

theorem rew_ok {d : Dk} {L : Lg} {rs : List (List UInt8)} (h : Inv d L) (hr : (rs.any fun r => decide (2000 < r.length)) = false) (hlen : (partsL rs).length ≤ halfN L.n) (hnum : L.s.num ≠ 999999999) (hgen : L.s.gen ≠ 999999) :
    ∃ d1, rewL L d rs = (0, ⟨rewS L rs, L.n, 0, rs, false⟩, d1) ∧ Inv d1 ⟨rewS L rs, L.n, 0, rs, false⟩ := by
  obtain ⟨h1, h2⟩ := rew_inv h hlen hnum hgen
  have hb := ((open_iff h.n6 h.n4).1 h.op).2.1
  refine ⟨_, ?_, h2⟩
  unfold rewL
  rw [if_neg (by rw [hb]; decide), if_neg (by rw [hr]; decide), if_neg hgen, if_neg (by omega), h1]
  simp

theorem pick_none {f : Nat → List UInt8} {half : Nat} (h0 : parseH 0 (f 0) half = none) (h1 : parseH 1 (f 1) half = none) (hz : f 0 = zS ∨ f 1 = zS) : pickH f half = some (⟨0, 0, 0⟩, 0) := by
  unfold pickH
  rw [h0, h1]
  simp only
  rw [if_neg (by rcases hz with h | h <;> simp [h])]

/-- A new disk: an empty log. -/
theorem new_inv {n : Nat} (h6 : 6 ≤ n) (h4 : n ≤ 4000) : Inv (newD n) ⟨⟨0, 0, 0⟩, n, 0, [], false⟩ := by
  have hz : ∀ i, i < n → (newD n).st.getD i [] = zS := fun i hi => by simp [newD, List.getD_eq_getElem?_getD, hi]
  refine ⟨⟨rfl, rfl, rfl⟩, ⟨by simp [newD], by simp [newD], fun i hi => ?_, fun i hi => ?_⟩, h6, h4, ?_⟩
  · rw [hz i hi]; rfl
  · simp [newD, List.getD_eq_getElem?_getD, hi]
  · refine (open_iff h6 h4).2 ⟨rfl, rfl, ?_, rfl, fun i b hi => by simp [partsL] at hi⟩
    exact pick_none (f := fun s => (newD n).st.getD s []) (by show parseH 0 ((newD n).st.getD 0 []) _ = none; rw [hz 0 (by omega)]; exact parse_zero _ _) (by show parseH 1 ((newD n).st.getD 1 []) _ = none; rw [hz 1 (by omega)]; exact parse_zero _ _) (.inl (hz 0 (by omega)))

end Go.Proofs.YtfjajkgfgigodaaGreatDoor

/- A log on a disk, in plain Lean: steps, power failures, rot and stale sectors, traces, foreign contents. -/
namespace Go.Proofs.YtfjajkgfgigodaaGreatDoor
open Go

/- STEPS -/
/-- The parts that an operation's records would have. -/
theorem app_step {d : Dk} {L : Lg} (h : Inv d L) (hn : L.s.num < 999999999) (r : List UInt8) :
    (2000 < r.length ∧ appL L d r = (3, L, d)) ∨ (r.length ≤ 2000 ∧ halfN L.n < (partsL (L.list ++ [r])).length ∧ appL L d r = (18, L, d)) ∨
      (r.length ≤ 2000 ∧ (partsL (L.list ++ [r])).length ≤ halfN L.n ∧ ∃ d1, appL L d r = (0, ⟨appS L r, L.n, 0, L.list ++ [r], false⟩, d1) ∧ Inv d1 ⟨appS L r, L.n, 0, L.list ++ [r], false⟩) := by
  obtain ⟨_, hb, _, hl, _⟩ := (open_iff h.n6 h.n4).1 h.op
  rw [parts_append, parts_one, List.length_append, ← hl]
  by_cases h1 : 2000 < r.length
  · exact .inl ⟨h1, by unfold appL; rw [if_neg (by rw [hb]; decide), if_pos h1]⟩
  · by_cases h2 : halfN L.n < L.s.len + (splitL r).length
    · exact .inr (.inl ⟨by omega, h2, by unfold appL; rw [if_neg (by rw [hb]; decide), if_neg h1, if_pos (.inl h2)]⟩)
    · exact .inr (.inr ⟨by omega, by omega, app_ok h (by omega) (by omega) (by omega)⟩)

theorem rew_step {d : Dk} {L : Lg} (h : Inv d L) (hn : L.s.num < 999999999) (hg : L.s.gen < 999999) (rs : List (List UInt8)) :
    ((rs.any fun r => decide (2000 < r.length)) = true ∧ rewL L d rs = (3, L, d)) ∨ ((rs.any fun r => decide (2000 < r.length)) = false ∧ halfN L.n < (partsL rs).length ∧ rewL L d rs = (18, L, d)) ∨
      ((rs.any fun r => decide (2000 < r.length)) = false ∧ (partsL rs).length ≤ halfN L.n ∧ ∃ d1, rewL L d rs = (0, ⟨rewS L rs, L.n, 0, rs, false⟩, d1) ∧ Inv d1 ⟨rewS L rs, L.n, 0, rs, false⟩) := by
  obtain ⟨_, hb, _, hl, _⟩ := (open_iff h.n6 h.n4).1 h.op
  cases h1 : rs.any fun r => decide (2000 < r.length) with
  | true => exact .inl ⟨rfl, by unfold rewL; rw [if_neg (by rw [hb]; decide), if_pos h1]⟩
  | false =>
    by_cases h2 : halfN L.n < (partsL rs).length
    · exact .inr (.inl ⟨rfl, h2, by unfold rewL; rw [if_neg (by rw [hb]; decide), if_neg (by rw [h1]; decide), if_neg (by omega), if_pos (.inl h2)]⟩)
    · exact .inr (.inr ⟨rfl, by omega, rew_ok h h1 (by omega) (by omega) (by omega)⟩)

/- POWER -/
theorem fail_calm {d : Dk} (h : d.Calm) (w b : Int) : d.fail w b = { d with off := true } := by
  unfold Dk.fail
  rw [if_neg (by rw [h.on]; decide), h.q]
  have hq := h.q
  have ha := h.arm
  cases d
  simp only at hq ha
  subst hq ha
  simp [Dk.settle, Dk.tear]

theorem start_calm {d : Dk} (h : d.Calm) (w b : Int) : (d.fail w b).start = d := by
  rw [fail_calm h]
  have ho := h.on
  have ha := h.arm
  cases d
  simp only at ho ha
  subst ho ha
  rfl

theorem each_off {d : Dk} (h : d.off = true) : eachD [] d = (19, d) := by
  unfold eachD Dk.sync
  rw [if_pos h]

/-- A rewrite of nothing on a disk that is off. -/
theorem rew_off {d : Dk} {L : Lg} (h : Inv d L) (hn : L.s.num < 999999999) (hg : L.s.gen < 999999) (w b : Int) : rewL L (d.fail w b) [] = (19, { L with broken := true }, d.fail w b) := by
  obtain ⟨_, hb, _, hl, _⟩ := (open_iff h.n6 h.n4).1 h.op
  have ho : (d.fail w b).off = true := by rw [fail_calm h.calm]
  unfold rewL
  rw [if_neg (by rw [hb]; decide), if_neg (by decide), if_neg (by omega), if_neg (by simp [partsL]; omega)]
  have e : runD (rewB L []) (d.fail w b) = (19, d.fail w b) := by
    unfold rewB putB
    simp only [partsL, List.flatMap_nil, List.length_nil, List.range'_zero, blanks, List.map_nil, List.cons_append]
    unfold runD
    rw [each_off ho]
    rfl
  rw [e]
  rfl

theorem open_off {d : Dk} (h : d.off = true) : openL d = .error 19 := if_pos h

theorem app_broken {d : Dk} {L : Lg} (h : L.broken = true) (r : List UInt8) : appL L d r = (12, L, d) := if_pos h
theorem rew_broken {d : Dk} {L : Lg} (h : L.broken = true) (rs : List (List UInt8)) : rewL L d rs = (12, L, d) := if_pos h

/- WHAT A SECTOR HELD BEFORE -/
/-- The sector's content before the last of some writes. -/
theorem settle_el : ∀ (ws : List (Nat × List UInt8)) {d : Dk} {n : Nat} (s : Nat), d.Wf n → InR n ws → s < n →
    (d.settle ws).el.getD s [] = match (ws.filter fun p => p.1 == s).reverse with
      | [] => d.el.getD s []
      | [_] => d.st.getD s []
      | _ :: p :: _ => p.2
  | [], _, _, _, _, _, _ => rfl
  | p :: r, d, n, s, h, hr, hs => by
    have hp := hr p (by simp)
    show ((d.set p.1 p.2).settle r).el.getD s [] = _
    rw [settle_el r s (set_wf h hp.1 (by rw [hp.2]; exact Nat.le_refl _)) (fun x hx => hr x (List.mem_cons_of_mem _ hx)) hs]
    have h64 := h.s64 p.1 hp.1
    have hst := h.st
    have hel := h.el
    by_cases hps : p.1 = s
    · subst hps
      have ef : (p :: r).filter (fun q => q.1 == p.1) = p :: r.filter fun q => q.1 == p.1 := by simp
      rw [ef, List.reverse_cons]
      have e1 : (d.set p.1 p.2).st.getD p.1 [] = p.2 := by
        simp only [Dk.set, List.getD_eq_getElem?_getD, List.getElem?_set] at h64 ⊢
        rw [if_pos trivial, if_pos (by omega)]
        simp [hp.2, h64]
      have e2 : (d.set p.1 p.2).el.getD p.1 [] = d.st.getD p.1 [] := by
        simp only [Dk.set, List.getD_eq_getElem?_getD, List.getElem?_set]
        rw [if_pos trivial, if_pos (by omega)]
        simp
      rw [e1, e2]
      cases hrv : (r.filter fun q => q.1 == p.1).reverse with
      | nil => simp
      | cons a l => cases l with
        | nil => simp
        | cons b l => simp
    · have ef : (p :: r).filter (fun q => q.1 == s) = r.filter fun q => q.1 == s := by simp [hps]
      rw [ef]
      have e1 : (d.set p.1 p.2).st.getD s [] = d.st.getD s [] := by
        simp only [Dk.set, List.getD_eq_getElem?_getD, List.getElem?_set]
        rw [if_neg hps]
      have e2 : (d.set p.1 p.2).el.getD s [] = d.el.getD s [] := by
        simp only [Dk.set, List.getD_eq_getElem?_getD, List.getElem?_set]
        rw [if_neg hps]
      rw [e1, e2]

/- TRACES -/
theorem filter_blanks (l : List Nat) (hl : l.Nodup) (s : Nat) : (blanks l).filter (fun p => p.1 == s) = if s ∈ l then [(s, zS)] else [] := by
  induction l with
  | nil => rfl
  | cons a l ih =>
    have hn := List.nodup_cons.1 hl
    have e : blanks (a :: l) = (a, zS) :: blanks l := rfl
    rw [e, List.filter_cons, ih hn.2]
    by_cases has : a = s
    · subst has
      simp [hn.1]
    · simp [has, Ne.symm has]

theorem rest_nodup (n frm k : Nat) : (restS n frm k).Nodup := List.Pairwise.filter _ List.nodup_range

/-- What a sector and its elder are after a rewrite. -/
theorem rew_trace {d : Dk} {L : Lg} {rs : List (List UInt8)} (h : Inv d L) (hlen : (partsL rs).length ≤ halfN L.n) {k : Nat} (hk : k < L.n) :
    ((d.settle (rewB L rs).flatten).st.getD k [] = if k < 2 then headL k (rewS L rs) else if startN L.n (L.s.gen + 1) ≤ k ∧ k < startN L.n (L.s.gen + 1) + (partsL rs).length then putL (L.s.gen + 1) k ((partsL rs).getD (k - startN L.n (L.s.gen + 1)) []) else zS) ∧
    ((d.settle (rewB L rs).flatten).el.getD k [] = if k < 2 then headL k (rewS L rs) else zS) := by
  obtain ⟨_, hbk, hp, hl, hd⟩ := (open_iff h.n6 h.n4).1 h.op
  obtain ⟨hf, hl2, ha⟩ := pick_fits hp
  have hst := start_le L.n (L.s.gen + 1) h.n6
  have hn := h.n6
  have hin : ∀ ws ∈ rewB L rs, InR L.n ws := rewB_in ha (by omega) (by omega)
  have hinf : InR L.n (rewB L rs).flatten := fun p hp => by
    obtain ⟨ws, h1, h2⟩ := List.mem_flatten.1 hp
    exact hin ws h1 p h2
  rw [settle_get _ k h.wf hinf hk, settle_el _ k h.wf hinf hk]
  have efl : (rewB L rs).flatten.filter (fun p => p.1 == k) = (putB L.at_ (startN L.n (L.s.gen + 1)) (rewS L rs) (partsL rs)).flatten.filter (fun p => p.1 == k) ++ (tailB L rs).filter (fun p => p.1 == k) := by
    rw [rewB_flat, List.filter_append]
  rw [efl, List.reverse_append]
  by_cases h2 : k < 2
  · have hc : k = 0 ∨ k = 1 := by omega
    rw [if_pos h2, if_pos h2, rewB_flat, lastQ_append, tailB_head hc]
    refine ⟨rfl, ?_⟩
    have e1 : (tailB L rs).filter (fun p => p.1 == k) = [(k, headL k (rewS L rs))] := by
      unfold tailB
      rw [List.filter_append, List.filter_append, List.filter_append, filter_blanks _ (rest_nodup _ _ _), if_neg (fun hm => by have := (rest_mem.1 hm).2.1; omega)]
      rcases hc with rfl | rfl <;> rfl
    have e2 : ∃ l, ((putB L.at_ (startN L.n (L.s.gen + 1)) (rewS L rs) (partsL rs)).flatten.filter fun p => p.1 == k).reverse = (k, headL k (rewS L rs)) :: l := by
      simp only [putB, List.flatten_cons, List.flatten_nil, List.append_nil, List.filter_append, List.reverse_append]
      have e3 : (headW (1 - L.at_) (rewS L rs)).filter (fun p => p.1 == k) ++ (headW L.at_ (rewS L rs)).filter (fun p => p.1 == k) = [(k, headL k (rewS L rs))] := by
        rcases ha with ha | ha <;> rw [ha] <;> rcases hc with rfl | rfl <;> rfl
      rw [← List.reverse_append, e3]
      exact ⟨_, rfl⟩
    obtain ⟨l, e2⟩ := e2
    rw [e1, e2]
    rfl
  · rw [if_neg h2, if_neg h2]
    by_cases hdt : startN L.n (L.s.gen + 1) ≤ k ∧ k < startN L.n (L.s.gen + 1) + (partsL rs).length
    · rw [if_pos hdt]
      obtain ⟨b, hb⟩ := getx (show k - startN L.n (L.s.gen + 1) < (partsL rs).length by omega)
      have ek : startN L.n (L.s.gen + 1) + (k - startN L.n (L.s.gen + 1)) = k := by omega
      have hgd : (partsL rs).getD (k - startN L.n (L.s.gen + 1)) [] = b := by rw [List.getD_eq_getElem?_getD, hb]; rfl
      constructor
      · rw [rewB_flat, lastQ_append, tailB_data (by omega) hdt.1 hdt.2]
        have := putB_data (s := rewS L rs) ha (by omega : 2 ≤ startN L.n (L.s.gen + 1)) hb
        rw [ek] at this
        rw [this, hgd]
        rfl
      · have e1 : (tailB L rs).filter (fun p => p.1 == k) = [] := by
          rw [List.filter_eq_nil_iff]
          intro p hp
          have := tailB_data (L := L) (rs := rs) (by omega) hdt.1 hdt.2
          intro hpk
          unfold lastQ at this
          have h3 := Option.map_eq_none_iff.1 this
          exact List.find?_eq_none.1 h3 p (by simpa using hp) hpk
        have e4 : (headW (1 - L.at_) (rewS L rs)).filter (fun p => p.1 == k) = [] := by simp [headW]; omega
        have e5 : (headW L.at_ (rewS L rs)).filter (fun p => p.1 == k) = [] := by simp [headW]; omega
        have e6 : (blanks (List.range' (startN L.n (L.s.gen + 1)) (partsL rs).length)).filter (fun p => p.1 == k) = [(k, zS)] := by
          rw [filter_blanks _ List.nodup_range', if_pos (by rw [List.mem_range'_1]; omega)]
        have e7 : ∃ x, (datas (rewS L rs).gen (startN L.n (L.s.gen + 1)) (partsL rs)).filter (fun p => p.1 == k) = [x] := by
          have hz : (datas (rewS L rs).gen (startN L.n (L.s.gen + 1)) (partsL rs)).map (·.1) = List.range' (startN L.n (L.s.gen + 1)) (partsL rs).length := by
            unfold datas
            rw [List.map_map]
            apply List.ext_getElem?
            intro i
            simp [List.getElem?_zipIdx]
            cases hx : (partsL rs)[i]? with
            | none => simp ; simpa using hx
            | some y => simp [(List.getElem?_eq_some_iff.1 hx).1]
          have hnd : ∀ (l : List (Nat × List UInt8)), (l.map (·.1)).Nodup → ∀ x ∈ l, x.1 = k → l.filter (fun p => p.1 == k) = [x] := fun l => by
            induction l with
            | nil => intro _ x hx; cases hx
            | cons a l ih =>
              intro hn x hx hk
              have hn' := List.nodup_cons.1 (show (a.1 :: l.map (·.1)).Nodup from hn)
              rcases List.mem_cons.1 hx with rfl | hx
              · have : l.filter (fun p => p.1 == k) = [] := List.filter_eq_nil_iff.2 fun p hp => by
                  have : p.1 ∈ l.map (·.1) := List.mem_map.2 ⟨p, hp, rfl⟩
                  intro hpk
                  have hpk : p.1 = k := by simpa using hpk
                  rw [hpk, ← hk] at this
                  exact hn'.1 this
                simp [hk, this]
              · have hak : a.1 ≠ k := fun hak => hn'.1 (by rw [hak, ← hk]; exact List.mem_map.2 ⟨x, hx, rfl⟩)
                rw [List.filter_cons, if_neg (by simpa using hak)]
                exact ih hn'.2 x hx hk
          have hmem : (k, putL (rewS L rs).gen k b) ∈ datas (rewS L rs).gen (startN L.n (L.s.gen + 1)) (partsL rs) := by
            refine List.mem_map.2 ⟨(b, k - startN L.n (L.s.gen + 1)), List.mem_zipIdx_iff_getElem?.2 hb, ?_⟩
            simp only [ek]
          exact ⟨_, hnd _ (by rw [hz]; exact List.nodup_range') _ hmem rfl⟩
        obtain ⟨x, e7⟩ := e7
        rw [e1]
        simp only [putB, List.flatten_cons, List.flatten_nil, List.append_nil, List.filter_append, e4, e5, e6, e7]
        rfl
    · rw [if_neg hdt]
      have hm : k ∈ restS L.n (startN L.n (L.s.gen + 1)) (partsL rs).length := rest_mem.2 ⟨hk, by omega, by omega⟩
      have e1 : (tailB L rs).filter (fun p => p.1 == k) = [(k, zS), (k, zS)] := by
        unfold tailB
        rw [List.filter_append, List.filter_append, List.filter_append, filter_blanks _ (rest_nodup _ _ _), if_pos hm]
        have e4 : (headW 0 (rewS L rs)).filter (fun p => p.1 == k) = [] := by simp [headW]; omega
        have e5 : (headW 1 (rewS L rs)).filter (fun p => p.1 == k) = [] := by simp [headW]; omega
        rw [e4, e5]
        rfl
      constructor
      · rw [rewB_flat, lastQ_append]
        have : lastQ (tailB L rs) k = some zS := lastQ_mem ⟨(k, zS), (List.mem_filter.1 (by rw [e1]; simp)).1, rfl⟩ fun p hp hs => by
          have : p ∈ (tailB L rs).filter fun p => p.1 == k := List.mem_filter.2 ⟨hp, by simpa using hs⟩
          rw [e1] at this
          simp at this
          rw [this]
        rw [this]
        rfl
      · rw [e1]
        rfl

end Go.Proofs.YtfjajkgfgigodaaGreatDoor

/- A log on a disk, in plain Lean: rot, stale sectors, foreign contents, and many operations. -/
namespace Go.Proofs.YtfjajkgfgigodaaGreatDoor
open Go

/- WHAT IS WRITTEN TO ONE SECTOR -/
theorem filt_one : ∀ (l : List (Nat × List UInt8)) {k : Nat} {x : Nat × List UInt8}, (l.map (·.1)).Nodup → x ∈ l → x.1 = k → l.filter (fun p => p.1 == k) = [x]
  | [], _, _, _, hx, _ => by cases hx
  | a :: l, k, x, hn, hx, hk => by
    have hn' := List.nodup_cons.1 (show (a.1 :: l.map (·.1)).Nodup from hn)
    rcases List.mem_cons.1 hx with rfl | hx
    · have : l.filter (fun p => p.1 == k) = [] := List.filter_eq_nil_iff.2 fun p hp => by
        have : p.1 ∈ l.map (·.1) := List.mem_map.2 ⟨p, hp, rfl⟩
        intro hpk
        have hpk : p.1 = k := by simpa using hpk
        rw [hpk, ← hk] at this
        exact hn'.1 this
      simp [hk, this]
    · have hak : a.1 ≠ k := fun hak => hn'.1 (by rw [hak, ← hk]; exact List.mem_map.2 ⟨x, hx, rfl⟩)
      rw [List.filter_cons, if_neg (by simpa using hak)]
      exact filt_one l hn'.2 hx hk

theorem datas_keys (gen frm : Nat) (parts : List (List UInt8)) : (datas gen frm parts).map (·.1) = List.range' frm parts.length := by
  unfold datas
  rw [List.map_map]
  apply List.ext_getElem?
  intro i
  simp [List.getElem?_zipIdx]
  cases hx : parts[i]? with
  | none => simp ; simpa using hx
  | some y => simp [(List.getElem?_eq_some_iff.1 hx).1]

theorem filt_datas {gen frm k : Nat} {parts : List (List UInt8)} (h1 : frm ≤ k) (h2 : k < frm + parts.length) : ∃ b, parts[k - frm]? = some b ∧ (datas gen frm parts).filter (fun p => p.1 == k) = [(k, putL gen k b)] := by
  obtain ⟨b, hb⟩ := getx (show k - frm < parts.length by omega)
  refine ⟨b, hb, filt_one _ (by rw [datas_keys]; exact List.nodup_range') (List.mem_map.2 ⟨(b, k - frm), List.mem_zipIdx_iff_getElem?.2 hb, ?_⟩) rfl⟩
  simp only [show frm + (k - frm) = k by omega]

theorem filt_none {l : List (Nat × List UInt8)} {k : Nat} (h : ∀ p ∈ l, p.1 ≠ k) : l.filter (fun p => p.1 == k) = [] := List.filter_eq_nil_iff.2 fun p hp hk => h p hp (by simpa using hk)

theorem putB_fhead {at_ frm k : Nat} {s : St} {parts : List (List UInt8)} (ha : at_ = 0 ∨ at_ = 1) (hk : k < 2) (hf : 2 ≤ frm) : (putB at_ frm s parts).flatten.filter (fun p => p.1 == k) = [(k, headL k s)] := by
  have hc : k = 0 ∨ k = 1 := by omega
  have e1 : (blanks (List.range' frm parts.length)).filter (fun p => p.1 == k) = [] := filt_none fun p hp => by
    have := (blanks_mem hp).1
    rw [List.mem_range'_1] at this
    omega
  have e2 : (datas s.gen frm parts).filter (fun p => p.1 == k) = [] := filt_none fun p hp => by
    obtain ⟨i, b, _, rfl⟩ := datas_mem hp
    simp only
    omega
  simp only [putB, List.flatten_cons, List.flatten_nil, List.append_nil, List.filter_append, e1, e2, List.nil_append]
  rcases ha with ha | ha <;> rw [ha] <;> rcases hc with rfl | rfl <;> rfl

theorem putB_fdata {at_ frm k : Nat} {s : St} {parts : List (List UInt8)} (ha : at_ = 0 ∨ at_ = 1) (hf : 2 ≤ frm) (h1 : frm ≤ k) (h2 : k < frm + parts.length) : ∃ b, parts[k - frm]? = some b ∧ (putB at_ frm s parts).flatten.filter (fun p => p.1 == k) = [(k, zS), (k, putL s.gen k b)] := by
  obtain ⟨b, hb, e2⟩ := filt_datas (gen := s.gen) h1 h2
  refine ⟨b, hb, ?_⟩
  have e1 : (blanks (List.range' frm parts.length)).filter (fun p => p.1 == k) = [(k, zS)] := by
    rw [filter_blanks _ List.nodup_range', if_pos (by rw [List.mem_range'_1]; omega)]
  have e3 : (headW (1 - at_) s).filter (fun p => p.1 == k) = [] := filt_none fun p hp => by
    simp only [headW, List.mem_singleton] at hp; subst hp; simp only; omega
  have e4 : (headW at_ s).filter (fun p => p.1 == k) = [] := filt_none fun p hp => by
    simp only [headW, List.mem_singleton] at hp; subst hp; simp only; omega
  simp only [putB, List.flatten_cons, List.flatten_nil, List.append_nil, List.filter_append, e1, e2, e3, e4, List.cons_append, List.nil_append]

theorem putB_fother {at_ frm k : Nat} {s : St} {parts : List (List UInt8)} (ha : at_ = 0 ∨ at_ = 1) (h2 : 2 ≤ k) (hk : k < frm ∨ frm + parts.length ≤ k) : (putB at_ frm s parts).flatten.filter (fun p => p.1 == k) = [] := by
  have := putB_other (s := s) ha h2 hk
  unfold lastQ at this
  refine filt_none fun p hp hpk => ?_
  have h3 := Option.map_eq_none_iff.1 this
  exact List.find?_eq_none.1 h3 p (by simpa using hp) (by simpa using hpk)

/-- What a sector and its elder are after an append. -/
theorem app_trace {d : Dk} {L : Lg} {r : List UInt8} (h : Inv d L) (hlen : L.s.len + (splitL r).length ≤ halfN L.n) {k : Nat} (hk : k < L.n) :
    (k < 2 → (d.settle (appB L r).flatten).st.getD k [] = headL k (appS L r) ∧ (d.settle (appB L r).flatten).el.getD k [] = d.st.getD k []) ∧
    (startN L.n L.s.gen ≤ k → k < startN L.n L.s.gen + L.s.len → (d.settle (appB L r).flatten).el.getD k [] = d.el.getD k []) ∧
    (startN L.n L.s.gen + L.s.len ≤ k → k < startN L.n L.s.gen + L.s.len + (splitL r).length → (d.settle (appB L r).flatten).el.getD k [] = zS) := by
  obtain ⟨_, hbk, hp, hl, hd⟩ := (open_iff h.n6 h.n4).1 h.op
  obtain ⟨hf, hl2, ha⟩ := pick_fits hp
  have hst := start_le L.n L.s.gen h.n6
  have hin : ∀ ws ∈ appB L r, InR L.n ws := putB_in ha (by have := h.n6; omega) (by show startN L.n L.s.gen + L.s.len + (splitL r).length ≤ L.n; omega) fun i b hb => ((split_shape r).2 i b hb).1
  have hinf : InR L.n (appB L r).flatten := fun p hp => by
    obtain ⟨ws, h1, h2⟩ := List.mem_flatten.1 hp
    exact hin ws h1 p h2
  rw [settle_get _ k h.wf hinf hk, settle_el _ k h.wf hinf hk]
  refine ⟨fun h2 => ?_, fun h2 h3 => ?_, fun h2 h3 => ?_⟩
  · rw [appB, putB_fhead ha h2 (by omega), putB_head ha (by omega)]
    exact ⟨rfl, rfl⟩
  · rw [appB, putB_fother ha (by omega) (.inl (by omega))]
    rfl
  · obtain ⟨b, _, e⟩ := putB_fdata (s := appS L r) ha (by omega) h2 h3
    rw [appB, e]
    rfl

/- ROT AND STALE SECTORS -/
/-- A log on a disk that was new, and what its sectors held before. -/
structure DInv (d : Dk) (L : Lg) : Prop where
  inv : Inv d L
  heads : (∀ a, a < 2 → d.st.getD a [] = headL a L.s) ∨ (L.s = ⟨0, 0, 0⟩ ∧ ∀ a, a < 2 → d.st.getD a [] = zS ∧ d.el.getD a [] = zS)
  elds : ∀ a, a < 2 → d.el.getD a [] = zS ∨ ∃ T : St, d.el.getD a [] = headL a T ∧ T.Fits ∧ (T = L.s ∨ T.num < L.s.num)
  data : ∀ k, startN L.n L.s.gen ≤ k → k < startN L.n L.s.gen + L.s.len → d.el.getD k [] = zS

theorem new_dinv {n : Nat} (h6 : 6 ≤ n) (h4 : n ≤ 4000) : DInv (newD n) ⟨⟨0, 0, 0⟩, n, 0, [], false⟩ := by
  have hz : ∀ i, i < n → (newD n).st.getD i [] = zS ∧ (newD n).el.getD i [] = zS := fun i hi => by simp [newD, List.getD_eq_getElem?_getD, hi]
  exact ⟨new_inv h6 h4, .inr ⟨rfl, fun a ha => hz a (by omega)⟩, fun a ha => .inl (hz a (by omega)).2, fun k _ h => by simp only at *; omega⟩

theorem app_dinv {d : Dk} {L : Lg} {r : List UInt8} (h : DInv d L) (hlen : L.s.len + (splitL r).length ≤ halfN L.n) (hnum : L.s.num ≠ 999999999) :
    DInv (d.settle (appB L r).flatten) ⟨appS L r, L.n, 0, L.list ++ [r], false⟩ := by
  have ht := fun k (hk : k < L.n) => app_trace h.inv hlen hk
  have hn := h.inv.n6
  obtain ⟨_, hbk, hp, hl, hd⟩ := (open_iff h.inv.n6 h.inv.n4).1 h.inv.op
  obtain ⟨hf, hl2, ha⟩ := pick_fits hp
  have hst := start_le L.n L.s.gen hn
  refine ⟨(app_inv h.inv hlen hnum).2, .inl fun a ha => ((ht a (by omega)).1 ha).1, fun a ha => ?_, fun k h1 h2 => ?_⟩
  · rw [((ht a (by omega)).1 ha).2]
    rcases h.heads with hh | ⟨_, hh⟩
    · exact .inr ⟨L.s, hh a ha, hf, .inr (Nat.lt_succ_self _)⟩
    · exact .inl (hh a ha).1
  · have h1 : startN L.n L.s.gen ≤ k := h1
    have h2 : k < startN L.n L.s.gen + (L.s.len + (splitL r).length) := h2
    by_cases hk : k < startN L.n L.s.gen + L.s.len
    · rw [(ht k (by omega)).2.1 h1 hk]
      exact h.data k h1 hk
    · exact (ht k (by omega)).2.2 (by omega) (by omega)

theorem rew_dinv {d : Dk} {L : Lg} {rs : List (List UInt8)} (h : DInv d L) (hlen : (partsL rs).length ≤ halfN L.n) (hnum : L.s.num ≠ 999999999) (hgen : L.s.gen ≠ 999999) :
    DInv (d.settle (rewB L rs).flatten) ⟨rewS L rs, L.n, 0, rs, false⟩ := by
  have ht := fun k (hk : k < L.n) => rew_trace h.inv hlen hk
  have hn := h.inv.n6
  obtain ⟨_, hbk, hp, hl, hd⟩ := (open_iff h.inv.n6 h.inv.n4).1 h.inv.op
  obtain ⟨hf, hl2, ha⟩ := pick_fits hp
  have hst := start_le L.n (L.s.gen + 1) hn
  refine ⟨(rew_inv h.inv hlen hnum hgen).2, .inl fun a ha => ?_, fun a ha => .inr ⟨rewS L rs, ?_, ⟨?_, ?_, ?_⟩, .inl rfl⟩, fun k h1 h2 => ?_⟩
  · rw [(ht a (by omega)).1, if_pos ha]
  · rw [(ht a (by omega)).2, if_pos ha]
  · have := hf.num; simp only [rewS]; omega
  · have := hf.gen; simp only [rewS]; omega
  · have : halfN L.n ≤ 2000 := by unfold halfN; have := h.inv.n4; omega
    simp only [rewS]
    omega
  · have h1 : startN L.n (L.s.gen + 1) ≤ k := h1
    have h2 : k < startN L.n (L.s.gen + 1) + (partsL rs).length := h2
    rw [(ht k (by omega)).2, if_neg (by omega)]

/-- Open says a log, or that it is damaged. -/
theorem open_or {f : Nat → List UInt8} {n : Nat} (h6 : 6 ≤ n) : (∃ L, openF f n = .ok L) ∨ openF f n = .error 20 := by
  unfold openF
  rw [if_neg (by omega)]
  split
  · exact .inr rfl
  · split
    · exact .inr rfl
    · split
      · exact .inr rfl
      · exact .inl ⟨_, rfl⟩

/-- A sector of the records that is no good. -/
theorem open_bad {f : Nat → List UInt8} {n k a : Nat} {s : St} (h6 : 6 ≤ n) (h4 : n ≤ 4000) (hp : pickH f (halfN n) = some (s, a)) (h1 : startN n s.gen ≤ k) (h2 : k < startN n s.gen + s.len) (hb : okS (f k) = false) : openF f n = .error 20 := by
  rcases open_or (f := f) h6 with ⟨L, h⟩ | h
  · obtain ⟨_, _, hp', hl, hd⟩ := (open_iff h6 h4).1 h
    rw [hp] at hp'
    simp only [Option.some.injEq, Prod.mk.injEq] at hp'
    obtain ⟨rfl, rfl⟩ := hp'
    obtain ⟨hf, hl2, _⟩ := pick_fits hp
    have hst := start_le n L.s.gen h6
    obtain ⟨b, hx⟩ := getx (show k - startN n L.s.gen < (partsL L.list).length by omega)
    have := hd _ b hx
    rw [show startN n L.s.gen + (k - startN n L.s.gen) = k by omega] at this
    rw [this] at hb
    have h5 := (ok_put (e := (L.s.gen : Nat)) (p := (k : Nat)) (by have := hf.gen; simp [placedB]; omega) (parts_len _ hx)).1
    rw [show ((L.s.gen : Nat) : Int).toNat = L.s.gen from rfl, show ((k : Nat) : Int).toNat = k from rfl, hb] at h5
    cases h5
  · exact h

/-- Other sectors with the same state and records. -/
theorem open_same {f g : Nat → List UInt8} {n a : Nat} {L : Lg} (h6 : 6 ≤ n) (h4 : n ≤ 4000) (h : openF f n = .ok L) (hp : pickH g (halfN n) = some (L.s, a)) (hg : ∀ k, startN n L.s.gen ≤ k → k < startN n L.s.gen + L.s.len → g k = f k) : openF g n = .ok { L with at_ := a } := by
  obtain ⟨h1, h2, _, hl, hd⟩ := (open_iff h6 h4).1 h
  refine (open_iff h6 h4).2 ⟨h1, h2, hp, hl, fun i b hi => ?_⟩
  have : i < (partsL L.list).length := (List.getElem?_eq_some_iff.1 hi).1
  rw [show (({ L with at_ := a } : Lg)).s = L.s from rfl, hg _ (by omega) (by omega)]
  exact hd i b hi

/-- One head says the state, the other is older, or none. -/
theorem pick_keep {g : Nat → List UInt8} {half a : Nat} {s : St} (ha : a < 2) (hs : s.Fits) (hl : s.len ≤ half) (h1 : g (1 - a) = headL (1 - a) s) (h2 : ∀ t, parseH a (g a) half = some t → t = s ∨ t.num < s.num) : ∃ b, pickH g half = some (s, b) := by
  have hc : a = 0 ∨ a = 1 := by omega
  have e := (parse_iff (a := 1 - a) (half := half) (s := s) (by omega)).2 ⟨h1, hs, hl⟩
  unfold pickH
  rcases hc with rfl | rfl
  · rw [show 1 - 0 = 1 from rfl] at e
    rw [e]
    cases h0 : parseH 0 (g 0) half with
    | none => exact ⟨1, rfl⟩
    | some t =>
      rcases h2 t h0 with rfl | hlt
      · exact ⟨0, by simp⟩
      · refine ⟨1, ?_⟩
        simp only
        rw [if_neg (by omega), if_neg (by omega)]
  · rw [show 1 - 1 = 0 from rfl] at e
    rw [e]
    cases h0 : parseH 1 (g 1) half with
    | none => exact ⟨0, rfl⟩
    | some t =>
      rcases h2 t h0 with rfl | hlt
      · exact ⟨0, by simp⟩
      · refine ⟨0, ?_⟩
        simp only
        rw [if_neg (by omega), if_pos (by omega)]

/-- Two bytes of a head are not zero. -/
theorem head_bytes (a : Nat) (s : St) : ∃ x y, (headL a s)[15]? = some x ∧ (headL a s)[16]? = some y ∧ x ≠ 0 ∧ y ≠ 0 := by
  have hl : (digS s ++ digS s).length = 38 := by simp [digS_len]
  have e1 : (headL a s)[15]? = some 38 := by
    unfold headL
    rw [putL_shape, hl, List.getElem?_append_right (by simp [be]), List.getElem?_append_right (by simp [be]), List.getElem?_append_left (by simp [be])]
    simp [be]
    decide
  obtain ⟨y, hy⟩ := getx (show 0 < (digS s ++ digS s).length by omega)
  have e2 : (headL a s)[16]? = some y := by
    unfold headL
    rw [putL_shape, hl, List.getElem?_append_right (by simp [be]), List.getElem?_append_right (by simp [be]), List.getElem?_append_right (by simp [be]), List.getElem?_append_left (by simp [be, digS_len])]
    simpa [be] using hy
  refine ⟨38, y, e1, e2, by decide, ?_⟩
  rintro rfl
  obtain ⟨_, _, h3⟩ := headB_iff.1 (headB_dig s)
  have := h3 0 (List.mem_of_getElem? hy)
  exact absurd this (by decide)

theorem zero_rot (a half i : Nat) (c : UInt8) : parseH a (zS.set i c) half = none ∨ 4000 ≤ a := by
  by_cases ha : a < 4000
  · left
    cases h : parseH a (zS.set i c) half with
    | none => rfl
    | some t =>
      obtain ⟨e, _, _⟩ := (parse_iff ha).1 h
      obtain ⟨x, y, h1, h2, h3, h4⟩ := head_bytes a t
      rw [← e] at h1 h2
      by_cases hi : i = 15
      · subst hi
        rw [List.getElem?_set_ne (by decide)] at h2
        simp at h2
        exact absurd h2.symm h4
      · rw [List.getElem?_set_ne hi] at h1
        simp at h1
        exact absurd h1.symm h3
  · exact .inr (by omega)

theorem bad_parse {a half : Nat} {sec : List UInt8} (h : okS sec = false) : parseH a sec half = none := by
  unfold parseH
  refine if_neg fun hx => ?_
  have := hx.1
  unfold getR at this
  rw [h] at this
  split at this <;> simp at this

/-- One sector that is another one. -/
theorem harm {d : Dk} {L : Lg} {k : Nat} {t : List UInt8} (h : DInv d L) (_hk : k < L.n)
    (h1 : k < 2 → d.st.getD k [] = zS → parseH k t (halfN L.n) = none)
    (h2 : k < 2 → d.st.getD k [] = headL k L.s → ∀ T, parseH k t (halfN L.n) = some T → T = L.s ∨ T.num < L.s.num)
    (h3 : startN L.n L.s.gen ≤ k → k < startN L.n L.s.gen + L.s.len → okS t = false) :
    (∃ L', openF (fun s => if s = k then t else d.st.getD s []) L.n = .ok L' ∧ L'.list = L.list) ∨ openF (fun s => if s = k then t else d.st.getD s []) L.n = .error 20 := by
  have h6 := h.inv.n6
  have h4 := h.inv.n4
  obtain ⟨_, hbk, hp, hl, hd⟩ := (open_iff h6 h4).1 h.inv.op
  obtain ⟨hf, hl2, ha⟩ := pick_fits hp
  have hst := start_le L.n L.s.gen h6
  by_cases hk2 : k < 2
  · have hg : ∀ j, startN L.n L.s.gen ≤ j → j < startN L.n L.s.gen + L.s.len → (if j = k then t else d.st.getD j []) = d.st.getD j [] := fun j hj _ => if_neg (by omega)
    have hpk : ∃ b, pickH (fun s => if s = k then t else d.st.getD s []) (halfN L.n) = some (L.s, b) := by
      rcases h.heads with hh | ⟨hs, hh⟩
      · refine pick_keep hk2 hf hl2 ?_ fun T hT => ?_
        · rw [if_neg (by omega)]
          exact hh _ (by omega)
        · rw [if_pos rfl] at hT
          exact h2 hk2 (hh k hk2) T hT
      · refine ⟨0, ?_⟩
        rw [hs]
        refine pick_none ?_ ?_ ?_
        · show parseH 0 (if 0 = k then t else d.st.getD 0 []) _ = none
          split
          · rename_i e
            rw [e]
            exact h1 hk2 (hh k hk2).1
          · rw [(hh 0 (by decide)).1]; exact parse_zero _ _
        · show parseH 1 (if 1 = k then t else d.st.getD 1 []) _ = none
          split
          · rename_i e
            rw [e]
            exact h1 hk2 (hh k hk2).1
          · rw [(hh 1 (by decide)).1]; exact parse_zero _ _
        · by_cases e : k = 0
          · right
            show (if 1 = k then t else d.st.getD 1 []) = zS
            rw [if_neg (by omega)]
            exact (hh 1 (by decide)).1
          · left
            show (if 0 = k then t else d.st.getD 0 []) = zS
            rw [if_neg (by omega)]
            exact (hh 0 (by decide)).1
    obtain ⟨b, hb⟩ := hpk
    exact .inl ⟨_, open_same h6 h4 h.inv.op hb hg, rfl⟩
  · have hpk : pickH (fun s => if s = k then t else d.st.getD s []) (halfN L.n) = some (L.s, L.at_) := by
      rw [← hp]
      unfold pickH
      simp only [if_neg (show ¬ 0 = k by omega), if_neg (show ¬ 1 = k by omega)]
    by_cases hact : startN L.n L.s.gen ≤ k ∧ k < startN L.n L.s.gen + L.s.len
    · exact .inr (open_bad h6 h4 hpk hact.1 hact.2 (by simp only [if_true]; exact h3 hact.1 hact.2))
    · exact .inl ⟨_, open_same h6 h4 h.inv.op hpk fun j hj1 hj2 => if_neg (by omega), rfl⟩

theorem set_getD {l : List (List UInt8)} {k : Nat} {t : List UInt8} (hk : k < l.length) : (fun s => (l.set k t).getD s []) = fun s => if s = k then t else l.getD s [] := by
  funext s
  simp only [List.getD_eq_getElem?_getD, List.getElem?_set]
  by_cases h : k = s
  · subst h
    rw [if_pos rfl, if_pos hk, if_pos rfl]
    rfl
  · rw [if_neg h, if_neg (Ne.symm h)]

theorem open_at {d : Dk} {L : Lg} {k : Nat} {t : List UInt8} (h : Inv d L) (hk : k < L.n) : openL { d with st := d.st.set k t } = openF (fun s => if s = k then t else d.st.getD s []) L.n := by
  unfold openL
  rw [if_neg (by rw [show ({ d with st := d.st.set k t } : Dk).off = d.off from rfl, h.calm.on]; decide)]
  have e : ({ d with st := d.st.set k t } : Dk).look = fun s => (d.st.set k t).getD s [] := funext fun s => look_calm (d := { d with st := d.st.set k t }) ⟨h.calm.on, h.calm.q, h.calm.arm⟩ s
  rw [e, set_getD (by rw [h.wf.st]; exact hk)]
  simp [h.wf.st]

/-- A stale sector. -/
theorem stale_open {d : Dk} {L : Lg} (h : DInv d L) (k : Nat) (hk : k < L.n) : (∃ L', openL (d.stale k) = .ok L' ∧ L'.list = L.list) ∨ openL (d.stale k) = .error 20 := by
  have hs : d.stale k = { d with st := d.st.set k (d.el.getD k []) } := by
    unfold Dk.stale
    rw [if_pos ⟨by omega, by rw [h.inv.wf.st]; omega⟩]
    rfl
  rw [hs, open_at h.inv hk]
  refine harm h hk (fun h2 hz => ?_) (fun h2 hz T hT => ?_) fun h1 h2 => ?_
  · rcases h.heads with hh | ⟨_, hh⟩
    · have := hh k h2
      rw [hz] at this
      obtain ⟨x, y, e1, _, e3, _⟩ := head_bytes k L.s
      rw [← this] at e1
      simp at e1
      exact absurd e1.symm e3
    · rw [(hh k h2).2]
      exact parse_zero _ _
  · rcases h.elds k h2 with e | ⟨T', e, hF, ho⟩
    · rw [e, parse_zero] at hT
      cases hT
    · rw [e] at hT
      obtain ⟨e', hF', _⟩ := (parse_iff (by omega)).1 hT
      have := headL_inj (by omega) hF hF' e'
      rw [← this]
      exact ho
  · rw [h.data k h1 h2]
    exact sum_zero

/-- A byte that rots. -/
theorem rot_open {d : Dk} {L : Lg} (h : DInv d L) (k i m : Nat) (hk : k < L.n) (hi : i < 64) (hm : m < 256) : (∃ L', openL (d.rot k i m) = .ok L' ∧ L'.list = L.list) ∨ openL (d.rot k i m) = .error 20 := by
  by_cases hm0 : m = 0
  · left
    refine ⟨L, ?_, rfl⟩
    unfold Dk.rot
    rw [if_neg (by omega)]
    exact h.inv.open'
  · have hs : d.rot k i m = { d with st := d.st.set k ((d.st.getD k []).set i ((d.st.getD k []).getD i 0 ^^^ UInt8.ofNat m)) } := by
      unfold Dk.rot
      rw [if_pos ⟨by omega, by rw [h.inv.wf.st]; omega, by omega, by omega, by omega, by omega⟩]
      rfl
    rw [hs, open_at h.inv hk]
    have h6 := h.inv.n6
    obtain ⟨_, hbk, hp, hl, hd⟩ := (open_iff h6 h.inv.n4).1 h.inv.op
    obtain ⟨hf, hl2, ha⟩ := pick_fits hp
    have hst := start_le L.n L.s.gen h6
    have hne : ∀ x : UInt8, x ^^^ UInt8.ofNat m ≠ x := fun x hx => by
      have h0 : UInt8.ofNat m = 0 := by
        have := congrArg (x ^^^ ·) hx
        simpa [← UInt8.xor_assoc] using this
      have h1 := congrArg UInt8.toNat h0
      rw [UInt8.toNat_ofNat'] at h1
      simp at h1
      omega
    have hbad : ∀ (g p : Nat) (b : List UInt8), b.length ≤ 40 → d.st.getD k [] = putL g p b → okS ((d.st.getD k []).set i ((d.st.getD k []).getD i 0 ^^^ UInt8.ofNat m)) = false := fun g p b hb e => by
      rw [e]
      obtain ⟨x, hx⟩ := getx (show i < (putL g p b).length by rw [putL_len hb]; exact hi)
      have e2 : (putL g p b).getD i 0 = x := by rw [List.getD_eq_getElem?_getD, hx]; rfl
      rw [e2]
      exact rot (e := (g : Int)) (p := (p : Int)) hb hx (hne x)
    refine harm h hk (fun h2 hz => ?_) (fun h2 hz T hT => ?_) fun h1 h2 => ?_
    · rw [hz]
      rcases zero_rot k (halfN L.n) i (zS.getD i 0 ^^^ UInt8.ofNat m) with e | e
      · exact e
      · omega
    · rw [bad_parse (hbad 0 k (digS L.s ++ digS L.s) (by simp [digS_len]) hz)] at hT
      cases hT
    · obtain ⟨b, hx⟩ := getx (show k - startN L.n L.s.gen < (partsL L.list).length by omega)
      have := hd _ b hx
      rw [show startN L.n L.s.gen + (k - startN L.n L.s.gen) = k by omega] at this
      exact hbad _ _ b (parts_len _ hx) this

/- FOREIGN CONTENTS -/
theorem pick_congr {f g : Nat → List UInt8} {half : Nat} (h0 : f 0 = g 0) (h1 : f 1 = g 1) : pickH f half = pickH g half := by
  unfold pickH
  rw [h0, h1]

/-- Writes that are not yet synchronized. -/
theorem run_pending {n : Nat} {b : List (Nat × List UInt8)} {bs : List (List (Nat × List UInt8))} {d : Dk} (h1 : d.off = false) (h2 : d.arm = none) (h3 : d.st.length = n) (hr : InR n b) :
    runD (b :: bs) d = runD (b :: bs) { d.settle d.q with q := [] } := by
  unfold runD
  obtain ⟨e1, e2, e3⟩ := settle_fields d.q d
  rw [each_pending b d h1 h2 h3 hr, each_pending b { d.settle d.q with q := [] } (e2.trans h1) (e3.trans h2) ((settle_len d.q d).trans h3) hr]
  simp only [settle_q, settle_append, List.nil_append]

theorem flat_le : ∀ (bs : List (List UInt8)), (∀ b ∈ bs, b.length ≤ 40) → bs.flatten.length ≤ 40 * bs.length
  | [], _ => Nat.zero_le _
  | b :: r, h => by
    have h1 := h b (by simp)
    have h2 := flat_le r fun x hx => h x (List.mem_cons_of_mem _ hx)
    simp only [List.flatten_cons, List.length_append, List.length_cons]
    omega

/-- A record of few parts is short. -/
theorem rec_short {l : List (List UInt8)} {r : List UInt8} (h : r ∈ l) : r.length ≤ 40 * (partsL l).length := by
  have h1 : (splitL r).length ≤ (partsL l).length := by
    unfold partsL
    obtain ⟨a, b, rfl⟩ := List.append_of_mem h
    simp
    omega
  have h2 := flat_le (splitL r) fun b hb => by
    obtain ⟨j, hj, rfl⟩ := List.mem_iff_getElem.1 hb
    exact ((split_shape r).2 j _ (List.getElem?_eq_getElem hj)).1
  rw [flatten_split, whole_eq] at h2
  simp at h2
  omega

/-- A disk with writes that are not yet synchronized: what Open finds can be written again. -/
theorem foreign {d : Dk} {n : Nat} {L : Lg} (h1 : d.off = false) (h2 : d.arm = none) (h3 : d.Wf n) (hq : InR n d.q) (h6 : 6 ≤ n) (h4 : n ≤ 40) (ho : openL d = .ok L) :
    rewL L d L.list = (18, L, d) ∨ ∃ L' d1, rewL L d L.list = (0, L', d1) ∧ ∃ L2, openL d1 = .ok L2 ∧ L2.list = L.list := by
  have e : openL d = openF d.look n := by
    unfold openL
    rw [if_neg (by rw [h1]; decide), h3.st]
  rw [e] at ho
  obtain ⟨hn, hbk, hp, hl, hd⟩ := (open_iff h6 (by omega)).1 ho
  obtain ⟨hf, hl2, ha⟩ := pick_fits hp
  have hcalm : ({ d.settle d.q with q := [] } : Dk).Calm := ⟨(settle_fields d.q d).2.1.trans h1, rfl, (settle_fields d.q d).2.2.trans h2⟩
  have hwf := settle_wf d.q h3 hq
  have hinv : Inv { d.settle d.q with q := [] } L := by
    refine ⟨hcalm, ?_, by omega, by omega, ?_⟩
    · rw [hn]
      exact ⟨hwf.st, hwf.el, hwf.s64, hwf.e64⟩
    · rw [hn, open_iff h6 (by omega)]
      have hst := start_le n L.s.gen h6
      have hlook : ∀ s, s < n → (d.settle d.q).st.getD s [] = d.look s := fun s hs => settle_get d.q s h3 hq hs
      refine ⟨hn, hbk, ?_, hl, fun i b hi => ?_⟩
      · rw [← hp]
        exact pick_congr (hlook 0 (by omega)) (hlook 1 (by omega))
      · have := (List.getElem?_eq_some_iff.1 hi).1
        show (d.settle d.q).st.getD _ [] = _
        rw [hlook _ (by omega)]
        exact hd i b hi
  have hh : halfN n ≤ 19 := by unfold halfN; omega
  have hany : (L.list.any fun r => decide (2000 < r.length)) = false := by
    rw [List.any_eq_false]
    intro r hr
    have := rec_short hr
    simp
    omega
  by_cases hg : L.s.gen = 999999
  · left
    unfold rewL
    rw [if_neg (by rw [hbk]; decide), if_neg (by rw [hany]; decide), if_pos hg]
  by_cases hm : L.s.num = 999999999
  · left
    unfold rewL
    rw [if_neg (by rw [hbk]; decide), if_neg (by rw [hany]; decide), if_neg hg, if_pos (.inr hm)]
  right
  obtain ⟨d1, h5, h7⟩ := rew_ok (rs := L.list) hinv hany (by rw [hn]; omega) hm hg
  refine ⟨⟨rewS L L.list, L.n, 0, L.list, false⟩, d1, ?_, ⟨rewS L L.list, L.n, 0, L.list, false⟩, h7.open', rfl⟩
  rw [← h5]
  have hst := start_le n (L.s.gen + 1) h6
  have hin := rewB_in (L := L) (rs := L.list) ha (by omega) (by rw [hn]; omega)
  unfold rewL
  rw [if_neg (by rw [hbk]; decide), if_neg (by rw [hany]; decide), if_neg hg, if_neg (by rw [hn]; omega), if_neg (by rw [hbk]; decide), if_neg (by rw [hany]; decide), if_neg hg, if_neg (by rw [hn]; omega)]
  have : ∃ b bs, rewB L L.list = b :: bs := ⟨_, _, rfl⟩
  obtain ⟨b, bs, e5⟩ := this
  rw [e5] at hin ⊢
  rw [run_pending h1 h2 (h3.st.trans hn.symm) (hin b (by simp))]

end Go.Proofs.YtfjajkgfgigodaaGreatDoor

/- A log on a disk, in plain Lean: many operations. -/
namespace Go.Proofs.YtfjajkgfgigodaaGreatDoor
open Go

structure OpP where
  kind : Nat
  body : List UInt8
  list : List (List UInt8)

/-- One operation: an append or a rewrite. -/
def stepL (L : Lg) (d : Dk) (o : OpP) : Int × Lg × Dk := if o.kind % 2 = 0 then appL L d o.body else rewL L d o.list

/-- The records after an operation that is done. -/
def afterL (l : List (List UInt8)) (o : OpP) : List (List UInt8) := if o.kind % 2 = 0 then l ++ [o.body] else o.list

def longL (o : OpP) : Bool := if o.kind % 2 = 0 then decide (2000 < o.body.length) else o.list.any fun r => decide (2000 < r.length)

/-- What an operation returns. -/
def codeL (n : Nat) (l : List (List UInt8)) (o : OpP) : Int := if longL o = true then 3 else if halfN n < (partsL (afterL l o)).length then 18 else 0

theorem step_law {d : Dk} {L : Lg} (h : DInv d L) (hn : L.s.num < 999999999) (hg : L.s.gen < 999999) (o : OpP) :
    ∃ L' d', stepL L d o = (codeL L.n L.list o, L', d') ∧ DInv d' L' ∧ L'.n = L.n ∧ L'.list = (if codeL L.n L.list o = 0 then afterL L.list o else L.list) ∧
      L'.s.num = L.s.num + (if codeL L.n L.list o = 0 then 1 else 0) ∧ L'.s.gen = L.s.gen + (if codeL L.n L.list o = 0 ∧ o.kind % 2 = 1 then 1 else 0) := by
  have same : codeL L.n L.list o ≠ 0 → stepL L d o = (codeL L.n L.list o, L, d) → ∃ L' d', stepL L d o = (codeL L.n L.list o, L', d') ∧ DInv d' L' ∧ L'.n = L.n ∧ L'.list = (if codeL L.n L.list o = 0 then afterL L.list o else L.list) ∧
      L'.s.num = L.s.num + (if codeL L.n L.list o = 0 then 1 else 0) ∧ L'.s.gen = L.s.gen + (if codeL L.n L.list o = 0 ∧ o.kind % 2 = 1 then 1 else 0) := fun hne he =>
    ⟨L, d, he, h, rfl, by rw [if_neg hne], by rw [if_neg hne]; rfl, by rw [if_neg fun hx => hne hx.1]; rfl⟩
  obtain ⟨_, hb, _, hl, _⟩ := (open_iff h.inv.n6 h.inv.n4).1 h.inv.op
  by_cases hk : o.kind % 2 = 0
  · have hc : codeL L.n L.list o = if 2000 < o.body.length then 3 else if halfN L.n < (partsL (L.list ++ [o.body])).length then 18 else 0 := by
      simp [codeL, longL, afterL, hk]
    have hs : stepL L d o = appL L d o.body := if_pos hk
    by_cases h1 : 2000 < o.body.length
    · rw [if_pos h1] at hc
      refine same (by rw [hc]; decide) ?_
      rw [hs, hc]
      unfold appL
      rw [if_neg (by rw [hb]; decide), if_pos h1]
    · rw [if_neg h1] at hc
      have hpl : (partsL (L.list ++ [o.body])).length = L.s.len + (splitL o.body).length := by rw [parts_append, parts_one, List.length_append, hl]
      by_cases h2 : halfN L.n < (partsL (L.list ++ [o.body])).length
      · rw [if_pos h2] at hc
        refine same (by rw [hc]; decide) ?_
        rw [hs, hc]
        unfold appL
        rw [if_neg (by rw [hb]; decide), if_neg h1, if_pos (.inl (by omega))]
      · rw [if_neg h2] at hc
        have hr := (app_inv (r := o.body) h.inv (by omega) (by omega)).1
        have hd := app_dinv (r := o.body) h (by omega) (by omega)
        refine ⟨_, _, ?_, hd, rfl, ?_, ?_, ?_⟩
        · rw [hs, hc]
          unfold appL
          rw [if_neg (by rw [hb]; decide), if_neg h1, if_neg (by omega), hr]
          rfl
        · rw [if_pos hc]; simp [afterL, hk]
        · rw [if_pos hc]; rfl
        · rw [if_neg (by omega)]; rfl
  · have hc : codeL L.n L.list o = if (o.list.any fun r => decide (2000 < r.length)) = true then 3 else if halfN L.n < (partsL o.list).length then 18 else 0 := by
      simp only [codeL, longL, afterL, if_neg hk]
    have hs : stepL L d o = rewL L d o.list := if_neg hk
    by_cases h1 : (o.list.any fun r => decide (2000 < r.length)) = true
    · rw [if_pos h1] at hc
      refine same (by rw [hc]; decide) ?_
      rw [hs, hc]
      unfold rewL
      rw [if_neg (by rw [hb]; decide), if_pos h1]
    · rw [if_neg h1] at hc
      by_cases h2 : halfN L.n < (partsL o.list).length
      · rw [if_pos h2] at hc
        refine same (by rw [hc]; decide) ?_
        rw [hs, hc]
        unfold rewL
        rw [if_neg (by rw [hb]; decide), if_neg h1, if_neg (by omega), if_pos (.inl h2)]
      · rw [if_neg h2] at hc
        have hr := (rew_inv (rs := o.list) h.inv (by omega) (by omega) (by omega)).1
        have hd := rew_dinv (rs := o.list) h (by omega) (by omega) (by omega)
        refine ⟨_, _, ?_, hd, rfl, ?_, ?_, ?_⟩
        · rw [hs, hc]
          unfold rewL
          rw [if_neg (by rw [hb]; decide), if_neg h1, if_neg (by omega), if_neg (by omega), hr]
          rfl
        · rw [if_pos hc]; simp [afterL, hk]
        · rw [if_pos hc]; rfl
        · rw [if_pos ⟨hc, by omega⟩]; rfl

structure Pl where
  L : Lg
  d : Dk
  out : List (List UInt8)
  a : Nat
  r : Nat

/-- One operation of a play: its records, and how many were done. -/
def playS (p : Pl) (o : OpP) : Pl :=
  let x := stepL p.L p.d o
  ⟨x.2.1, x.2.2, if x.1 = 0 then (if o.kind % 2 = 0 then p.out ++ [o.body] else o.list) else p.out, if x.1 = 0 ∧ o.kind % 2 = 0 then p.a + 1 else p.a, if x.1 = 0 ∧ o.kind % 2 = 1 then p.r + 1 else p.r⟩

def playL (p : Pl) (l : List OpP) : Pl := l.foldl playS p

/-- A play's state, with room for k further operations. -/
structure PInv (n k : Nat) (p : Pl) : Prop where
  inv : DInv p.d p.L
  n : p.L.n = n
  out : p.L.list = p.out
  num : p.L.s.num = p.a + p.r
  gen : p.L.s.gen = p.r
  k : p.a + p.r + k < 999999

theorem playS_inv {n k : Nat} {p : Pl} (h : PInv n (k + 1) p) (o : OpP) : PInv n k (playS p o) := by
  have hk := h.k
  have hnum := h.num
  have hgen := h.gen
  obtain ⟨L', d', e, h1, h2, h3, h4, h5⟩ := step_law h.inv (by omega) (by omega) o
  unfold playS
  rw [e]
  simp only
  have hm : o.kind % 2 = 0 ∨ o.kind % 2 = 1 := by omega
  by_cases hc : codeL p.L.n p.L.list o = 0
  · rw [if_pos hc] at h3 h4
    rcases hm with hm | hm
    · rw [if_neg (by omega)] at h5
      simp only [hc, hm, if_true, true_and, if_neg (show ¬ (0 : Nat) = 1 by decide)]
      refine ⟨h1, h2.trans h.n, ?_, ?_, ?_, ?_⟩
      · simp only [h3, afterL, hm, if_true, h.out]
      · simp only; omega
      · simp only; omega
      · simp only; omega
    · rw [if_pos ⟨hc, hm⟩] at h5
      simp only [hc, hm, if_true, true_and, if_neg (show ¬ (1 : Nat) = 0 by decide)]
      refine ⟨h1, h2.trans h.n, ?_, ?_, ?_, ?_⟩
      · simp only [h3, afterL, hm, if_neg (show ¬ (1 : Nat) = 0 by decide)]
      · simp only; omega
      · simp only; omega
      · simp only; omega
  · rw [if_neg hc] at h3 h4
    rw [if_neg fun hx => hc hx.1] at h5
    simp only [hc, if_false, false_and]
    refine ⟨h1, h2.trans h.n, h3.trans h.out, ?_, ?_, ?_⟩
    · simp only; omega
    · simp only; omega
    · simp only; omega

theorem playL_inv {n : Nat} : ∀ (l : List OpP) {k : Nat} {p : Pl}, PInv n (k + l.length) p → PInv n k (playL p l)
  | [], _, _, h => h
  | o :: l, k, p, h => playL_inv l (playS_inv (by rw [show k + l.length + 1 = k + (o :: l).length by simp; omega]; exact h) o)

def newP (n : Nat) : Pl := ⟨⟨⟨0, 0, 0⟩, n, 0, [], false⟩, newD n, [], 0, 0⟩

theorem newP_inv {n k : Nat} (h6 : 6 ≤ n) (h4 : n ≤ 4000) (hk : k < 999999) : PInv n k (newP n) := ⟨new_dinv h6 h4, rfl, rfl, rfl, rfl, by simp only [newP]; omega⟩

/-- A play's records are there after the power failed. -/
theorem durable {n k : Nat} {p : Pl} (h : PInv n k p) (w b : Int) : ∃ L, openL (p.d.fail w b).start = .ok L ∧ L.list = p.out ∧ (p.d.fail w b).start = p.d :=
  ⟨p.L, by rw [start_calm h.inv.inv.calm]; exact h.inv.inv.open', h.out, start_calm h.inv.inv.calm w b⟩

theorem lists_eq {a b : List (List UInt8)} {n : Nat} (ha : a.length = n) (hb : b.length = n) (h : ∀ k, k < n → a.getD k [] = b.getD k []) : a = b := by
  apply List.ext_getElem (by omega)
  intro i h1 h2
  have := h i (by omega)
  simpa [List.getD_eq_getElem?_getD, h1, h2] using this

/-- As many operations before: a rewrite leaves the same disk. -/
theorem traces {d b : Dk} {L M : Lg} {rs : List (List UInt8)} (h : Inv d L) (g : Inv b M) (hn : L.n = M.n) (hnum : L.s.num = M.s.num) (hgen : L.s.gen = M.s.gen) (l1 : L.s.num < 999999999) (l2 : L.s.gen < 999999) :
    (∃ e, e ≠ 0 ∧ rewL L d rs = (e, L, d) ∧ rewL M b rs = (e, M, b)) ∨ ∃ L' d', rewL L d rs = (0, L', d') ∧ rewL M b rs = (0, L', d') ∧ d'.Calm ∧ d'.Wf L.n := by
  obtain ⟨_, hb1, _, _, _⟩ := (open_iff h.n6 h.n4).1 h.op
  obtain ⟨_, hb2, _, _, _⟩ := (open_iff g.n6 g.n4).1 g.op
  by_cases c1 : (rs.any fun r => decide (2000 < r.length)) = true
  · left
    refine ⟨3, by decide, ?_, ?_⟩
    · unfold rewL; rw [if_neg (by rw [hb1]; decide), if_pos c1]
    · unfold rewL; rw [if_neg (by rw [hb2]; decide), if_pos c1]
  by_cases c2 : halfN L.n < (partsL rs).length
  · left
    refine ⟨18, by decide, ?_, ?_⟩
    · unfold rewL; rw [if_neg (by rw [hb1]; decide), if_neg c1, if_neg (by omega), if_pos (.inl c2)]
    · unfold rewL; rw [if_neg (by rw [hb2]; decide), if_neg c1, if_neg (by omega), if_pos (.inl (by rw [← hn]; exact c2))]
  right
  obtain ⟨r1, i1⟩ := rew_inv h (rs := rs) (by omega) (by omega) (by omega)
  obtain ⟨r2, i2⟩ := rew_inv g (rs := rs) (by rw [← hn]; omega) (by omega) (by omega)
  have es : rewS L rs = rewS M rs := by simp only [rewS, hnum, hgen]
  have ed : d.settle (rewB L rs).flatten = b.settle (rewB M rs).flatten := by
    have t1 := fun k hk => rew_trace h (rs := rs) (by omega) (k := k) hk
    have t2 := fun k hk => rew_trace g (rs := rs) (by rw [← hn]; omega) (k := k) hk
    have w1 := i1.wf
    have w2 := i2.wf
    have c1 := i1.calm
    have c2 := i2.calm
    have e1 : (d.settle (rewB L rs).flatten).st = (b.settle (rewB M rs).flatten).st := lists_eq w1.st (w2.st.trans hn.symm) fun k hk => by
      have hk : k < L.n := hk
      rw [(t1 k hk).1, (t2 k (by omega)).1, es, hn, hgen]
    have e2 : (d.settle (rewB L rs).flatten).el = (b.settle (rewB M rs).flatten).el := lists_eq w1.el (w2.el.trans hn.symm) fun k hk => by
      have hk : k < L.n := hk
      rw [(t1 k hk).2, (t2 k (by omega)).2, es]
    generalize d.settle (rewB L rs).flatten = x at *
    generalize b.settle (rewB M rs).flatten = y at *
    obtain ⟨a1, a2, a3, a4, a5⟩ := x
    obtain ⟨b1, b2, b3, b4, b5⟩ := y
    have p1 := c1.on
    have p2 := c1.q
    have p3 := c1.arm
    have q1 := c2.on
    have q2 := c2.q
    have q3 := c2.arm
    simp only at e1 e2 p1 p2 p3 q1 q2 q3
    subst e1 e2 p1 p2 p3 q1 q2 q3
    rfl
  refine ⟨⟨rewS L rs, L.n, 0, rs, false⟩, _, ?_, ?_, i1.calm, i1.wf⟩
  · unfold rewL
    rw [if_neg (by rw [hb1]; decide), if_neg c1, if_neg (by omega), if_neg (by omega), r1]
    rfl
  · unfold rewL
    rw [if_neg (by rw [hb2]; decide), if_neg c1, if_neg (by omega), if_neg (by rw [← hn]; omega), r2, es, hn, ed]
    rfl

theorem stale_calm {d : Dk} {n : Nat} (h : d.Calm) (w : d.Wf n) (k : Int) : (d.stale k).Calm ∧ (d.stale k).Wf n := by
  unfold Dk.stale
  split
  · rename_i hk
    refine ⟨⟨h.on, h.q, h.arm⟩, ⟨by simpa using w.st, w.el, fun i hi => ?_, w.e64⟩⟩
    have h1 := w.s64 i hi
    have h2 := w.e64 i hi
    simp only [List.getD_eq_getElem?_getD, List.getElem?_set] at h1 h2 ⊢
    by_cases hki : k.toNat = i
    · subst hki
      rw [if_pos rfl, if_pos (by omega)]
      simpa using h2
    · rw [if_neg hki]; exact h1
  · exact ⟨h, w⟩

end Go.Proofs.YtfjajkgfgigodaaGreatDoor
