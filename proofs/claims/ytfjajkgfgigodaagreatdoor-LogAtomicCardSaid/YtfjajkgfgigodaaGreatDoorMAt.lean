/-
  Torn heads of the log: which states a sector can say that was written in pieces; the sums of heads by digits, and checks over all small states. Torn heads of the log: the bytes of a head. Torn heads of the log: what a sector holds that was written in pieces, and that it says no other state. A disk with an alarm, in plain Lean: a beginning of all writes reaches the disk, and a piece of the next one. A log that the power may cut, in plain Lean: after any beginning of an operation's writes, and a piece of the next one, the log is that before it or that after it. A log that the power may cut, in plain Lean: one operation. The statement LogAtomic.
-/
import Derived.Test.YtfjajkgfgigodaaGreatDoorStructs
import Derived.Test.YtfjajkgfgigodaaGreatDoorMPl
import Derived.Test.YtfjajkgfgigodaaGreatDoorVcSep
import Derived.Test.YtfjajkgfgigodaaGreatDoorOps
import Derived.Test.YtfjajkgfgigodaaGreatDoorMDu
import Derived.Test.YtfjajkgfgigodaaGreatDoorMFo
/- Torn heads of the log: which states a sector can say that was written in pieces; the sums of heads by digits, and checks over all small states. -/
namespace Go.Proofs.YtfjajkgfgigodaaGreatDoor
open Go

/- CHECKS THAT THE KERNEL CAN RUN: a proposition that passes a proposition on -/
def AllC {α : Type} (l : List α) (f : α → Prop → Prop) (k : Prop) : Prop := List.rec (motive := fun _ => Prop) k (fun h _ ih => f h ih) l
def whenC (b : Bool) (f : Prop → Prop) (k : Prop) : Prop := Bool.rec (motive := fun _ => Prop) k (f k) b
def needC (b : Bool) (k : Prop) : Prop := Bool.rec (motive := fun _ => Prop) False k b
def letC (n : Nat) (f : Nat → Prop) : Prop := Nat.rec (motive := fun _ => Prop) (f 0) (fun k _ => f (Nat.succ k)) n

theorem letC_eq (n : Nat) (f : Nat → Prop) : letC n f = f n := match n with
  | 0 => rfl
  | _ + 1 => rfl

theorem AllC_of {α : Type} {f : α → Prop → Prop} {P : α → Prop} (hf : ∀ x k, f x k → P x ∧ k) : ∀ {l : List α} {k : Prop}, AllC l f k → (∀ x ∈ l, P x) ∧ k
  | [], _, h => ⟨fun _ hx => (List.not_mem_nil hx).elim, h⟩
  | a :: l, k, h => by
    have h1 : f a (AllC l f k) := h
    obtain ⟨h2, h3⟩ := hf a _ h1
    obtain ⟨h4, h5⟩ := AllC_of hf h3
    exact ⟨fun x hx => (List.mem_cons.1 hx).elim (fun e => e ▸ h2) (h4 x), h5⟩

theorem whenC_of {b : Bool} {f : Prop → Prop} {k P : Prop} (hf : ∀ k, f k → P ∧ k) (h : whenC b f k) : (b = true → P) ∧ k := by
  cases b with
  | false => exact ⟨fun e => Bool.noConfusion e, h⟩
  | true => obtain ⟨h1, h2⟩ := hf k h; exact ⟨fun _ => h1, h2⟩

theorem needC_of {b : Bool} {k : Prop} (h : needC b k) : b = true ∧ k := by
  cases b with
  | false => cases h
  | true => exact ⟨rfl, h⟩

attribute [irreducible] AllC whenC needC

/- THE SUMS OF HEADS, BY DIGITS -/
def wN (n : Nat) : Nat := Nat.add (Nat.mul (Nat.div n 10) 1708647177) (Nat.mul (Nat.mod n 10) 416090840)
def wG (n : Nat) : Nat := Nat.add (Nat.mul (Nat.div n 10) 1460943220) (Nat.mul (Nat.mod n 10) 2019472771)
def wL (n : Nat) : Nat := Nat.add (Nat.mul (Nat.div n 10) 2039779850) (Nat.mul (Nat.mod n 10) 333819619)
def kH (a : Nat) : Nat := cond (Nat.beq a 0) 94663448 1062408993
def xSm (n g l : Nat) : Nat := Nat.add (Nat.add (wN n) (wG g)) (wL l)
def sS (a x : Nat) : Nat := Nat.mod (Nat.add (kH a) x) 2147483647
def relS (x y : Nat) : Nat := Nat.mod (Nat.sub (Nat.add x 68719476704) y) 2147483647
def rN (x y : Nat) : Nat := relS (wN x) (wN y)
def rG (x y : Nat) : Nat := relS (wG x) (wG y)
def rL (x y : Nat) : Nat := relS (wL x) (wL y)
def rS (a b c : Nat) : Nat := Nat.mod (Nat.add (Nat.add a b) c) 2147483647
def li20 : List Nat := [0, 1, 2, 3, 4, 5, 6, 7, 8, 9, 10, 11, 12, 13, 14, 15, 16, 17, 18, 19]
def li16 : List Nat := [0, 1, 2, 3, 4, 5, 6, 7, 8, 9, 10, 11, 12, 13, 14, 15, 16]
def mix2 (x y : Nat) : List Nat := cond (Nat.beq (Nat.div x 10) (Nat.div y 10)) [x, y] [x, y, Nat.add (Nat.mul (Nat.div x 10) 10) (Nat.mod y 10), Nat.add (Nat.mul (Nat.div y 10) 10) (Nat.mod x 10)]
def mix3 (x y z : Nat) : List Nat := cond (and (Nat.beq (Nat.div x 10) (Nat.div y 10)) (Nat.beq (Nat.div y 10) (Nat.div z 10))) [x, y, z] [x, y, z, Nat.add (Nat.mul (Nat.div x 10) 10) (Nat.mod y 10), Nat.add (Nat.mul (Nat.div x 10) 10) (Nat.mod z 10), Nat.add (Nat.mul (Nat.div y 10) 10) (Nat.mod x 10), Nat.add (Nat.mul (Nat.div y 10) 10) (Nat.mod z 10), Nat.add (Nat.mul (Nat.div z 10) 10) (Nat.mod x 10), Nat.add (Nat.mul (Nat.div z 10) 10) (Nat.mod y 10)]
def n62 (e : Nat) : Bool := or (Nat.ble (Nat.mod e 65536) 255) (Nat.ble 65280 (Nat.mod e 65536))
def n63 (e : Nat) : Bool := Nat.ble (Nat.mod (Nat.succ e) 256) 1
def n16 (e : Nat) : Bool := Nat.ble (Nat.mod (Nat.succ e) 65536) 1
def lo0 (s : Nat) : Nat := Nat.mod s 256
def lo1 (s : Nat) : Nat := Nat.mod (Nat.div s 256) 256
def lo2 (s : Nat) : Nat := Nat.mod (Nat.div s 65536) 256
def lBN : List Nat := [0, 111313264, 416090840, 438836470, 550149734, 1597333913, 1708647177, 1731392807, 2036170383]
def lBG : List Nat := [0, 128010876, 465557457, 686540427, 995385763, 1152097884, 1460943220, 1681926190, 2019472771]
def lAN : List Nat := [0, 111313264, 416090840, 527404104, 832181680, 1292556337, 1597333913, 1708647177, 2124738017]
def lAG : List Nat := [0, 128010876, 337546581, 465557457, 558529551, 686540427, 995385763, 1024087008, 1152097884, 1332932344, 1460943220, 1588954096, 1681926190, 1891461895, 2019472771]
def tab62 : List (Nat × Nat × List (Nat × Nat)) := [(0, 465557457, [(10, 5), (11, 6), (12, 7), (13, 8), (14, 9)]), (0, 995385763, [(13, 0), (14, 1), (15, 2), (16, 3), (17, 4), (18, 5), (19, 6)]), (0, 1152097884, [(0, 13), (1, 14), (2, 15), (3, 16), (4, 17), (5, 18), (6, 19)]), (0, 1681926190, [(5, 10), (6, 11), (7, 12), (8, 13), (9, 14)]), (111313264, 128010876, [(10, 2), (11, 3), (12, 4), (13, 5), (14, 6), (15, 7), (16, 8), (17, 9)]), (111313264, 465557457, [(0, 17), (1, 18), (2, 19)]), (111313264, 686540427, [(19, 0)]), (111313264, 995385763, [(1, 10), (2, 11), (3, 12), (4, 13), (5, 14), (6, 15), (7, 16), (8, 17), (9, 18)]), (111313264, 1460943220, [(0, 4), (1, 5), (2, 6), (3, 7), (4, 8), (5, 9), (10, 14), (11, 15), (12, 16), (13, 17), (14, 18), (15, 19)]), (111313264, 2019472771, [(7, 0), (8, 1), (9, 2), (10, 7), (11, 8), (12, 9), (17, 10), (18, 11), (19, 12)]), (416090840, 128010876, [(16, 0), (17, 1), (18, 2), (19, 3)]), (416090840, 465557457, [(1, 10), (2, 11), (3, 12), (4, 13), (5, 14), (6, 15), (7, 16), (8, 17), (9, 18)]), (416090840, 995385763, [(9, 10)]), (416090840, 1460943220, [(4, 0), (5, 1), (6, 2), (7, 3), (8, 4), (9, 5), (14, 10), (15, 11), (16, 12), (17, 13), (18, 14), (19, 15)]), (438836470, 0, [(10, 1), (11, 2), (12, 3), (13, 4), (14, 5), (15, 6), (16, 7), (17, 8), (18, 9)]), (438836470, 686540427, [(1, 10), (2, 11), (3, 12), (4, 13), (5, 14), (6, 15), (7, 16), (8, 17), (9, 18)]), (438836470, 1152097884, [(0, 4), (1, 5), (2, 6), (3, 7), (4, 8), (5, 9), (10, 14), (11, 15), (12, 16), (13, 17), (14, 18), (15, 19)]), (438836470, 1681926190, [(4, 0), (5, 1), (6, 2), (7, 3), (8, 4), (9, 5), (14, 10), (15, 11), (16, 12), (17, 13), (18, 14), (19, 15)]), (550149734, 0, [(0, 13), (1, 14), (2, 15), (3, 16), (4, 17), (5, 18), (6, 19)]), (550149734, 465557457, [(0, 8), (1, 9), (10, 18), (11, 19)]), (550149734, 995385763, [(0, 0), (1, 1), (2, 2), (3, 3), (4, 4), (5, 5), (6, 6), (7, 7), (8, 8), (9, 9), (10, 10), (11, 11), (12, 12), (13, 13), (14, 14), (15, 15), (16, 16), (17, 17), (18, 18), (19, 19)]), (550149734, 1460943220, [(10, 5), (11, 6), (12, 7), (13, 8), (14, 9)]), (550149734, 2019472771, [(16, 0), (17, 1), (18, 2), (19, 3)]), (1597333913, 0, [(13, 0), (14, 1), (15, 2), (16, 3), (17, 4), (18, 5), (19, 6)]), (1597333913, 128010876, [(0, 16), (1, 17), (2, 18), (3, 19)]), (1597333913, 686540427, [(5, 10), (6, 11), (7, 12), (8, 13), (9, 14)]), (1597333913, 1152097884, [(0, 0), (1, 1), (2, 2), (3, 3), (4, 4), (5, 5), (6, 6), (7, 7), (8, 8), (9, 9), (10, 10), (11, 11), (12, 12), (13, 13), (14, 14), (15, 15), (16, 16), (17, 17), (18, 18), (19, 19)]), (1597333913, 1681926190, [(8, 0), (9, 1), (18, 10), (19, 11)]), (1708647177, 0, [(1, 10), (2, 11), (3, 12), (4, 13), (5, 14), (6, 15), (7, 16), (8, 17), (9, 18)]), (1708647177, 465557457, [(0, 4), (1, 5), (2, 6), (3, 7), (4, 8), (5, 9), (10, 14), (11, 15), (12, 16), (13, 17), (14, 18), (15, 19)]), (1708647177, 995385763, [(4, 0), (5, 1), (6, 2), (7, 3), (8, 4), (9, 5), (14, 10), (15, 11), (16, 12), (17, 13), (18, 14), (19, 15)]), (1708647177, 1460943220, [(10, 1), (11, 2), (12, 3), (13, 4), (14, 5), (15, 6), (16, 7), (17, 8), (18, 9)]), (1731392807, 686540427, [(0, 4), (1, 5), (2, 6), (3, 7), (4, 8), (5, 9), (10, 14), (11, 15), (12, 16), (13, 17), (14, 18), (15, 19)]), (1731392807, 1152097884, [(10, 9)]), (1731392807, 1681926190, [(10, 1), (11, 2), (12, 3), (13, 4), (14, 5), (15, 6), (16, 7), (17, 8), (18, 9)]), (1731392807, 2019472771, [(0, 16), (1, 17), (2, 18), (3, 19)]), (2036170383, 128010876, [(0, 7), (1, 8), (2, 9), (7, 10), (8, 11), (9, 12), (10, 17), (11, 18), (12, 19)]), (2036170383, 686540427, [(4, 0), (5, 1), (6, 2), (7, 3), (8, 4), (9, 5), (14, 10), (15, 11), (16, 12), (17, 13), (18, 14), (19, 15)]), (2036170383, 1152097884, [(10, 1), (11, 2), (12, 3), (13, 4), (14, 5), (15, 6), (16, 7), (17, 8), (18, 9)]), (2036170383, 1460943220, [(0, 19)]), (2036170383, 1681926190, [(17, 0), (18, 1), (19, 2)]), (2036170383, 2019472771, [(2, 10), (3, 11), (4, 12), (5, 13), (6, 14), (7, 15), (8, 16), (9, 17)])]
def inTab (a b t u : Nat) : Bool := tab62.any fun e => and (Nat.beq e.1 a) (and (Nat.beq e.2.1 b) (e.2.2.any fun p => and (Nat.beq p.1 t) (Nat.beq p.2 u)))
def isIn (l : List Nat) (x : Nat) : Bool := l.any fun y => Nat.beq y x

/-- The differences that occur. -/
def chkD : Prop := AllC li16 (fun n k => AllC (mix2 n (Nat.succ n)) (fun t k => AllC [n, Nat.succ n] (fun u k => needC (and (isIn lBN (rN t u)) (and (isIn lBG (rG t u)) (and (or (Nat.beq t u) (Nat.blt 0 (rN t u))) (or (Nat.beq t u) (Nat.blt 0 (rG t u)))))) k) k) k) True
def chkE : Prop := AllC li16 (fun n k => AllC (mix3 (Nat.pred n) n (Nat.succ n)) (fun t k => AllC [Nat.pred n, n] (fun u k => needC (and (or (Nat.blt t n) (isIn lAN (rN t u))) (and (isIn lAG (rG t u)) (and (or (Nat.beq t u) (Nat.blt 0 (rN t u))) (or (Nat.beq t u) (Nat.blt 0 (rG t u)))))) k) k) k) True
/-- Pieces of at most 62 bytes. -/
def chkA : Prop := AllC lAN (fun a k => AllC lAG (fun b k => AllC li20 (fun t k => AllC li20 (fun u k => whenC (n16 (rS a b (rL t u))) (fun k => needC (and (Nat.beq a 0) (and (Nat.beq b 0) (Nat.beq t u))) k) k) k) k) k) True
/-- Differences for which two bytes may agree. -/
def chkV : Prop := AllC lBN (fun a k => AllC lBG (fun b k => AllC li20 (fun t k => AllC li20 (fun u k => whenC (n62 (rS a b (rL t u))) (fun k => needC (or (inTab a b t u) (and (Nat.beq a 0) (and (Nat.beq b 0) (Nat.beq t u)))) k) k) k) k) k) True

def forY (n G : Nat) (f : Nat → Nat → Nat → Nat → Nat → Prop → Prop) (k : Prop) : Prop :=
  whenC (Nat.blt 0 n) (fun k => AllC li20 (fun l k => f n G l l l k) k) (AllC li20 (fun l k => whenC (Nat.blt 0 l) (fun k => f (Nat.succ n) G l 0 (Nat.pred l) k) k) (AllC li20 (fun l k => f (Nat.succ n) (Nat.succ G) l 0 19 k) k))
def forC (n G : Nat) (f : Nat → Nat → Nat → Nat → Nat → Prop → Prop) (k : Prop) : Prop :=
  whenC (Nat.blt 0 n) (fun k => AllC li20 (fun l k => f n G l l l k) k) (whenC (Nat.blt 1 n) (fun k => AllC li20 (fun l k => f (Nat.pred n) G l (Nat.succ l) 19 k) (whenC (Nat.blt 0 G) (fun k => AllC li20 (fun l k => f (Nat.pred n) (Nat.pred G) l 0 19 k) k) k)) k)
/-- Bytes 63 of a base, 62 of a piece and 61 of a piece: no such state. -/
def exB (n G tn tg tl un ug ul lo hi : Nat) (k : Prop) : Prop := letC (xSm tn tg tl) fun x => letC (xSm un ug ul) fun y =>
  forC n G (fun cn cg cl l1 h1 k => letC (xSm cn cg cl) fun z => whenC (n63 (relS x z)) (fun k => whenC (not (and (Nat.beq tn cn) (and (Nat.beq tg cg) (Nat.beq tl cl)))) (fun k => AllC [0, 1] (fun a k => letC (sS a x) fun st => letC (sS a y) fun su => letC (sS a z) fun sc =>
    whenC (and (Nat.beq (lo0 st) (lo0 sc)) (and (Nat.beq (lo1 st) (lo1 su)) (not (Nat.beq (lo0 su) (lo0 sc))))) (fun k => forY n G (fun vn vg vl l2 h2 k => letC (sS a (xSm vn vg vl)) fun sv =>
      whenC (and (Nat.beq (lo2 st) (lo2 sv)) (not (and (Nat.beq (lo1 st) (lo1 sv)) (Nat.beq (lo0 st) (lo0 sv))))) (fun k => needC (or (Nat.blt hi l1) (or (Nat.blt hi l2) (or (Nat.blt h1 lo) (or (Nat.blt h1 l2) (or (Nat.blt h2 lo) (Nat.blt h2 l1)))))) k) k) k) k) k) k) k) k
def chkB : Prop := AllC tab62 (fun e k => AllC li16 (fun n k => AllC (mix2 n (Nat.succ n)) (fun tn k => whenC (Nat.ble n tn) (fun k => AllC [0, 1] (fun ut k => whenC (Nat.beq (rN tn (Nat.add n ut)) e.1) (fun k =>
  AllC li16 (fun G k => whenC (Nat.ble G n) (fun k => AllC (mix2 G (Nat.succ G)) (fun tg k => AllC [0, 1] (fun vt k => whenC (and (Nat.ble vt ut) (Nat.beq (rG tg (Nat.add G vt)) e.2.1)) (fun k =>
    AllC e.2.2 (fun p k => whenC (and (or (Nat.blt 0 ut) (Nat.blt 0 n)) (or (Nat.beq ut vt) (Nat.blt 0 p.2))) (fun k => exB n G tn tg p.1 (Nat.add n ut) (Nat.add G vt) p.2 (cond (Nat.beq ut 0) p.2 0) (cond (Nat.beq ut 0) p.2 (cond (Nat.beq vt 0) (Nat.pred p.2) 19)) k) k) k) k) k) k) k) k) k) k) k) k) k) True
/-- Pieces on a sector of zero bytes. -/
def exZ (n G x : Nat) (k : Prop) : Prop := AllC [0, 1] (fun a k => letC (sS a x) fun st => whenC (Nat.beq (lo0 st) 0) (fun k => needC (Nat.blt 0 (lo1 st)) (forY n G (fun un ug ul _ _ k => letC (sS a (xSm un ug ul)) fun su => whenC (and (Nat.beq (lo1 st) (lo1 su)) (not (Nat.beq (lo0 su) 0))) (fun k =>
    forY n G (fun vn vg vl _ _ k => letC (sS a (xSm vn vg vl)) fun sv => needC (not (and (Nat.beq (lo2 st) (lo2 sv)) (not (and (Nat.beq (lo1 st) (lo1 sv)) (Nat.beq (lo0 st) (lo0 sv)))))) k) k) k) k)) k) k
def chkZ : Prop := AllC [0, 1] (fun n k => AllC (mix2 n (Nat.succ n)) (fun tn k => whenC (Nat.ble n tn) (fun k => AllC [0, 1] (fun G k => whenC (Nat.ble G n) (fun k => AllC (mix2 G (Nat.succ G)) (fun tg k => AllC li20 (fun tl k => exZ n G (xSm tn tg tl) k) k) k) k) k) k) k) True
theorem kD : chkD = True := by kernel_rfl
theorem kE : chkE = True := by kernel_rfl
theorem kA : chkA = True := by kernel_rfl
theorem kV : chkV = True := by kernel_rfl
theorem kZ : chkZ = True := by kernel_rfl
theorem kB : chkB = True := by kernel_rfl

theorem specA : ∀ a ∈ lAN, ∀ b ∈ lAG, ∀ t ∈ li20, ∀ u ∈ li20, n16 (rS a b (rL t u)) = true → (and (Nat.beq a 0) (and (Nat.beq b 0) (Nat.beq t u))) = true := by
  have key : (∀ a ∈ lAN, ∀ b ∈ lAG, ∀ t ∈ li20, ∀ u ∈ li20, n16 (rS a b (rL t u)) = true → (and (Nat.beq a 0) (and (Nat.beq b 0) (Nat.beq t u))) = true) ∧ True := by
    have h0 := of_eq_true kA
    unfold chkA at h0
    refine AllC_of (fun _ _ h => ?_) h0
    refine AllC_of (fun _ _ h => ?_) h
    refine AllC_of (fun _ _ h => ?_) h
    refine AllC_of (fun _ _ h => ?_) h
    refine whenC_of (fun _ h => ?_) h
    exact needC_of h
  exact key.1

theorem specV : ∀ a ∈ lBN, ∀ b ∈ lBG, ∀ t ∈ li20, ∀ u ∈ li20, n62 (rS a b (rL t u)) = true → (or (inTab a b t u) (and (Nat.beq a 0) (and (Nat.beq b 0) (Nat.beq t u)))) = true := by
  have key : (∀ a ∈ lBN, ∀ b ∈ lBG, ∀ t ∈ li20, ∀ u ∈ li20, n62 (rS a b (rL t u)) = true → (or (inTab a b t u) (and (Nat.beq a 0) (and (Nat.beq b 0) (Nat.beq t u)))) = true) ∧ True := by
    have h0 := of_eq_true kV
    unfold chkV at h0
    refine AllC_of (fun _ _ h => ?_) h0
    refine AllC_of (fun _ _ h => ?_) h
    refine AllC_of (fun _ _ h => ?_) h
    refine AllC_of (fun _ _ h => ?_) h
    refine whenC_of (fun _ h => ?_) h
    exact needC_of h
  exact key.1

theorem specD : ∀ n ∈ li16, ∀ t ∈ mix2 n (Nat.succ n), ∀ u ∈ [n, Nat.succ n], (and (isIn lBN (rN t u)) (and (isIn lBG (rG t u)) (and (or (Nat.beq t u) (Nat.blt 0 (rN t u))) (or (Nat.beq t u) (Nat.blt 0 (rG t u)))))) = true := by
  have key : (∀ n ∈ li16, ∀ t ∈ mix2 n (Nat.succ n), ∀ u ∈ [n, Nat.succ n], (and (isIn lBN (rN t u)) (and (isIn lBG (rG t u)) (and (or (Nat.beq t u) (Nat.blt 0 (rN t u))) (or (Nat.beq t u) (Nat.blt 0 (rG t u)))))) = true) ∧ True := by
    have h0 := of_eq_true kD
    unfold chkD at h0
    refine AllC_of (fun _ _ h => ?_) h0
    refine AllC_of (fun _ _ h => ?_) h
    refine AllC_of (fun _ _ h => ?_) h
    exact needC_of h
  exact key.1

theorem specE : ∀ n ∈ li16, ∀ t ∈ mix3 (Nat.pred n) n (Nat.succ n), ∀ u ∈ [Nat.pred n, n], (and (or (Nat.blt t n) (isIn lAN (rN t u))) (and (isIn lAG (rG t u)) (and (or (Nat.beq t u) (Nat.blt 0 (rN t u))) (or (Nat.beq t u) (Nat.blt 0 (rG t u)))))) = true := by
  have key : (∀ n ∈ li16, ∀ t ∈ mix3 (Nat.pred n) n (Nat.succ n), ∀ u ∈ [Nat.pred n, n], (and (or (Nat.blt t n) (isIn lAN (rN t u))) (and (isIn lAG (rG t u)) (and (or (Nat.beq t u) (Nat.blt 0 (rN t u))) (or (Nat.beq t u) (Nat.blt 0 (rG t u)))))) = true) ∧ True := by
    have h0 := of_eq_true kE
    unfold chkE at h0
    refine AllC_of (fun _ _ h => ?_) h0
    refine AllC_of (fun _ _ h => ?_) h
    refine AllC_of (fun _ _ h => ?_) h
    exact needC_of h
  exact key.1

theorem isIn_of {l : List Nat} {x : Nat} (h : isIn l x = true) : x ∈ l := by
  obtain ⟨y, hy, e⟩ := List.any_eq_true.1 h
  rw [← Nat.eq_of_beq_eq_true e]
  exact hy

theorem mem_li16 {n : Nat} (h : n ≤ 16) : n ∈ li16 := by
  have : li16 = List.range 17 := rfl
  rw [this]; exact List.mem_range.2 (by omega)

theorem mem_li20 {n : Nat} (h : n ≤ 19) : n ∈ li20 := by
  have : li20 = List.range 20 := rfl
  rw [this]; exact List.mem_range.2 (by omega)

theorem wN_le {n : Nat} (h : n < 100) : wN n ≤ 68719476704 := by
  show n / 10 * 1708647177 + n % 10 * 416090840 ≤ _
  omega
theorem wG_le {n : Nat} (h : n < 100) : wG n ≤ 68719476704 := by
  show n / 10 * 1460943220 + n % 10 * 2019472771 ≤ _
  omega
theorem wL_le {n : Nat} (h : n < 100) : wL n ≤ 68719476704 := by
  show n / 10 * 2039779850 + n % 10 * 333819619 ≤ _
  omega

theorem rS_eq {n g l m k j : Nat} (hm : m < 100) (hk : k < 100) (hj : j < 100) : rS (rN n m) (rG g k) (rL l j) = (xSm n g l + 206158430112 - xSm m k j) % 2147483647 := by
  have h1 := wN_le hm
  have h2 := wG_le hk
  have h3 := wL_le hj
  show ((wN n + 68719476704 - wN m) % 2147483647 + (wG g + 68719476704 - wG k) % 2147483647 + (wL l + 68719476704 - wL j) % 2147483647) % 2147483647 = (wN n + wG g + wL l + 206158430112 - (wN m + wG k + wL j)) % 2147483647
  generalize wN n = a, wN m = b, wG g = c, wG k = d, wL l = e, wL j = f at *
  omega

theorem sum_diff {a x y : Nat} (hy : y ≤ 206158430112) : (sS a x : Int) - sS a y = ((x + 206158430112 - y) % 2147483647 : Nat) ∨ (sS a x : Int) - sS a y + 2147483647 = ((x + 206158430112 - y) % 2147483647 : Nat) := by
  show (((kH a + x) % 2147483647 : Nat) : Int) - ((kH a + y) % 2147483647 : Nat) = _ ∨ (((kH a + x) % 2147483647 : Nat) : Int) - ((kH a + y) % 2147483647 : Nat) + 2147483647 = _
  generalize kH a = k
  omega

theorem xSm_le {n g l : Nat} (hn : n < 100) (hg : g < 100) (hl : l < 100) : xSm n g l ≤ 206158430112 := by
  have h1 := wN_le hn
  have h2 := wG_le hg
  have h3 := wL_le hl
  show wN n + wG g + wL l ≤ _
  omega

/-- Pieces of at most 62 bytes: a state whose two last bytes of the sum are the base's is the base. -/
theorem ghostA {n G a tn tg tl cn cg cl : Nat} (hn : n ≤ 16) (hG : G ≤ 16) (ht : tn ∈ mix3 (Nat.pred n) n (Nat.succ n)) (htn : n ≤ tn) (hg : tg ∈ mix3 (Nat.pred G) G (Nat.succ G)) (hl : tl ≤ 19)
    (hc : cn = Nat.pred n ∨ cn = n) (hcg : cg = Nat.pred G ∨ cg = G) (hcl : cl ≤ 19) (hs : sS a (xSm tn tg tl) % 65536 = sS a (xSm cn cg cl) % 65536) : tn = cn ∧ tg = cg ∧ tl = cl := by
  have e1 := specE n (mem_li16 hn) tn ht cn (by rcases hc with rfl | rfl <;> simp)
  have e2 := specE G (mem_li16 hG) tg hg cg (by rcases hcg with rfl | rfl <;> simp)
  simp only [Bool.and_eq_true, Bool.or_eq_true, Nat.blt_eq, Nat.beq_eq] at e1 e2
  obtain ⟨e3, _, e4, _⟩ := e1
  obtain ⟨_, e5, _, e6⟩ := e2
  have q1 := Nat.pred_le n
  have q2 := Nat.pred_le G
  have hcn : cn < 100 := by rcases hc with rfl | rfl <;> omega
  have hcg' : cg < 100 := by rcases hcg with rfl | rfl <;> omega
  have hA := specA _ (isIn_of (e3.resolve_left (by omega))) _ (isIn_of e5) tl (mem_li20 hl) cl (mem_li20 hcl)
  rw [rS_eq hcn hcg' (by omega)] at hA
  have hd := sum_diff (a := a) (x := xSm tn tg tl) (y := xSm cn cg cl) (xSm_le hcn hcg' (by omega))
  have hz := hA (by
    show Nat.ble ((_ + 1) % 65536) 1 = true
    rw [Nat.ble_eq]
    generalize (xSm tn tg tl + 206158430112 - xSm cn cg cl) % 2147483647 = e at *
    generalize sS a (xSm tn tg tl) = s at *
    generalize sS a (xSm cn cg cl) = t at *
    omega)
  simp only [Bool.and_eq_true, Nat.beq_eq] at hz
  obtain ⟨z1, z2, z3⟩ := hz
  exact ⟨e4.resolve_right (by omega), e6.resolve_right (by omega), z3⟩

/- PIECES OF 63 BYTES -/
theorem beqD (a b : Nat) : Nat.beq a b = decide (a = b) := by
  rw [Bool.eq_iff_iff]; simp [Nat.beq_eq]
theorem bltI {a b : Nat} (h : a < b) : Nat.blt a b = true := by rw [Nat.blt_eq]; exact h

/-- The states of pieces: the present one, those of an append, those of a rewrite. -/
def YsP (n G L a b c : Nat) : Prop := (a = n ∧ b = G ∧ c = L ∧ 0 < n) ∨ (a = n + 1 ∧ b = G ∧ L < c ∧ c ≤ 19) ∨ (a = n + 1 ∧ b = G + 1 ∧ c ≤ 19)
/-- The states of what was there before: the present one, or the one before it. -/
def CsP (n G L a b c : Nat) : Prop := (a = n ∧ b = G ∧ c = L ∧ 0 < n) ∨ (1 < n ∧ a = n - 1 ∧ b = G ∧ c < L) ∨ (1 < n ∧ 0 < G ∧ a = n - 1 ∧ b = G - 1 ∧ c ≤ 19)

theorem forY_of {n G : Nat} {f : Nat → Nat → Nat → Nat → Nat → Prop → Prop} {P : Nat → Nat → Nat → Nat → Nat → Prop} (hf : ∀ a b c d e k, f a b c d e k → P a b c d e ∧ k) {k : Prop} (h : forY n G f k) :
    (∀ L, L ≤ 19 → ∀ a b c, YsP n G L a b c → ∃ d e, d ≤ L ∧ L ≤ e ∧ P a b c d e) ∧ k := by
  unfold forY at h
  obtain ⟨h1, h⟩ := whenC_of (P := ∀ l ∈ li20, P n G l l l) (fun k h => AllC_of (fun l k h => hf _ _ _ _ _ _ h) h) h
  obtain ⟨h2, h⟩ := AllC_of (P := fun l => Nat.blt 0 l = true → P (n + 1) G l 0 (l - 1)) (fun l k h => whenC_of (fun k h => hf _ _ _ _ _ _ h) h) h
  obtain ⟨h3, h⟩ := AllC_of (P := fun l => P (n + 1) (G + 1) l 0 19) (fun l k h => hf _ _ _ _ _ _ h) h
  refine ⟨?_, h⟩
  rintro L hL a b c (⟨rfl, rfl, rfl, hn⟩ | ⟨rfl, rfl, h4, h5⟩ | ⟨rfl, rfl, h5⟩)
  · exact ⟨c, c, Nat.le_refl _, Nat.le_refl _, h1 (bltI hn) c (mem_li20 hL)⟩
  · exact ⟨0, c - 1, by omega, by omega, h2 c (mem_li20 h5) (bltI (by omega))⟩
  · exact ⟨0, 19, by omega, by omega, h3 c (mem_li20 h5)⟩

theorem forC_of {n G : Nat} {f : Nat → Nat → Nat → Nat → Nat → Prop → Prop} {P : Nat → Nat → Nat → Nat → Nat → Prop} (hf : ∀ a b c d e k, f a b c d e k → P a b c d e ∧ k) {k : Prop} (h : forC n G f k) :
    (∀ L, L ≤ 19 → ∀ a b c, CsP n G L a b c → ∃ d e, d ≤ L ∧ L ≤ e ∧ P a b c d e) ∧ k := by
  unfold forC at h
  obtain ⟨h1, h⟩ := whenC_of (P := ∀ l ∈ li20, P n G l l l) (fun k h => AllC_of (fun l k h => hf _ _ _ _ _ _ h) h) h
  obtain ⟨h2, h⟩ := whenC_of (P := (∀ l ∈ li20, P (n - 1) G l (l + 1) 19) ∧ (Nat.blt 0 G = true → ∀ l ∈ li20, P (n - 1) (G - 1) l 0 19)) (fun k h => by
    obtain ⟨g1, g⟩ := AllC_of (P := fun l => P (n - 1) G l (l + 1) 19) (fun l k h => hf _ _ _ _ _ _ h) h
    obtain ⟨g2, g⟩ := whenC_of (P := ∀ l ∈ li20, P (n - 1) (G - 1) l 0 19) (fun k h => AllC_of (fun l k h => hf _ _ _ _ _ _ h) h) g
    exact ⟨⟨g1, g2⟩, g⟩) h
  refine ⟨?_, h⟩
  rintro L hL a b c (⟨rfl, rfl, rfl, hn⟩ | ⟨hn, rfl, rfl, h4⟩ | ⟨hn, hg, rfl, rfl, h5⟩)
  · exact ⟨c, c, Nat.le_refl _, Nat.le_refl _, h1 (bltI hn) c (mem_li20 hL)⟩
  · exact ⟨c + 1, 19, by omega, by omega, (h2 (bltI hn)).1 c (mem_li20 (by omega))⟩
  · exact ⟨0, 19, by omega, by omega, (h2 (bltI hn)).2 (bltI hg) c (mem_li20 h5)⟩

/-- What the bytes of the sum say. -/
structure BytesB (a x z y v : Nat) : Prop where
  c63 : lo0 (sS a x) = lo0 (sS a z)
  u62 : lo1 (sS a x) = lo1 (sS a y)
  u63 : lo0 (sS a y) ≠ lo0 (sS a z)
  v61 : lo2 (sS a x) = lo2 (sS a v)
  v62 : ¬ (lo1 (sS a x) = lo1 (sS a v) ∧ lo0 (sS a x) = lo0 (sS a v))

theorem exB_of {n G tn tg tl un ug ul lo hi : Nat} {k : Prop} (h : exB n G tn tg tl un ug ul lo hi k) :
    (∀ L, L ≤ 19 → lo ≤ L → L ≤ hi → ∀ cn cg cl, CsP n G L cn cg cl → n63 (relS (xSm tn tg tl) (xSm cn cg cl)) = true → ∀ a ∈ [0, 1], ∀ vn vg vl, YsP n G L vn vg vl →
      BytesB a (xSm tn tg tl) (xSm cn cg cl) (xSm un ug ul) (xSm vn vg vl) → tn = cn ∧ tg = cg ∧ tl = cl) ∧ k := by
  unfold exB at h
  rw [letC_eq, letC_eq] at h
  obtain ⟨h3, h⟩ := forC_of (P := fun cn cg cl l1 h1 => n63 (relS (xSm tn tg tl) (xSm cn cg cl)) = true → (not (and (Nat.beq tn cn) (and (Nat.beq tg cg) (Nat.beq tl cl)))) = true → ∀ a ∈ [0, 1],
      (and (Nat.beq (lo0 (sS a (xSm tn tg tl))) (lo0 (sS a (xSm cn cg cl)))) (and (Nat.beq (lo1 (sS a (xSm tn tg tl))) (lo1 (sS a (xSm un ug ul)))) (not (Nat.beq (lo0 (sS a (xSm un ug ul))) (lo0 (sS a (xSm cn cg cl))))))) = true →
      ∀ L, L ≤ 19 → ∀ vn vg vl, YsP n G L vn vg vl → ∃ l2 h2, l2 ≤ L ∧ L ≤ h2 ∧ ((and (Nat.beq (lo2 (sS a (xSm tn tg tl))) (lo2 (sS a (xSm vn vg vl)))) (not (and (Nat.beq (lo1 (sS a (xSm tn tg tl))) (lo1 (sS a (xSm vn vg vl)))) (Nat.beq (lo0 (sS a (xSm tn tg tl))) (lo0 (sS a (xSm vn vg vl))))))) = true →
        (or (Nat.blt hi l1) (or (Nat.blt hi l2) (or (Nat.blt h1 lo) (or (Nat.blt h1 l2) (or (Nat.blt h2 lo) (Nat.blt h2 l1)))))) = true)) (fun cn cg cl l1 h1 k h => by
    rw [letC_eq] at h
    refine whenC_of (fun k h => whenC_of (fun k h => AllC_of (fun a k h => ?_) h) h) h
    rw [letC_eq, letC_eq, letC_eq] at h
    refine whenC_of (fun k h => forY_of (fun vn vg vl l2 h2 k h => ?_) h) h
    rw [letC_eq] at h
    exact whenC_of (fun k h => needC_of h) h) h
  refine ⟨fun L hL h1 h2 cn cg cl hc h63 a ha vn vg vl hv hb => ?_, h⟩
  obtain ⟨l1, h1', q1, q2, h4⟩ := h3 L hL cn cg cl hc
  by_cases he : tn = cn ∧ tg = cg ∧ tl = cl
  · exact he
  · exfalso
    obtain ⟨l2, h2', q3, q4, h5⟩ := h4 h63 (by
      simp only [beqD, Bool.not_eq_true', Bool.and_eq_false_iff, decide_eq_false_iff_not]
      rcases Decidable.not_and_iff_not_or_not.1 he with h | h
      · exact .inl h
      · exact .inr (Decidable.not_and_iff_not_or_not.1 h)) a ha (by simp only [beqD]; simpa using ⟨hb.c63, hb.u62, hb.u63⟩) L hL vn vg vl hv
    have h6 := h5 (by simp only [beqD]; simpa using ⟨hb.v61, Decidable.not_and_iff_not_or_not.1 hb.v62⟩)
    simp only [Bool.or_eq_true, Nat.blt_eq] at h6
    omega

theorem specB {n G L : Nat} (hn : n ≤ 16) (hG : G ≤ n) (hL : L ≤ 19) {e : Nat × Nat × List (Nat × Nat)} (he : e ∈ tab62) {tn ut tg vt : Nat} (ht : tn ∈ mix2 n (n + 1)) (htn : n ≤ tn) (hut : ut ∈ [0, 1]) (ha : rN tn (n + ut) = e.1)
    (hg : tg ∈ mix2 G (G + 1)) (hvt : vt ∈ [0, 1]) (hvu : vt ≤ ut) (hb : rG tg (G + vt) = e.2.1) {p : Nat × Nat} (hp : p ∈ e.2.2) (hu : YsP n G L (n + ut) (G + vt) p.2) :
    ∀ cn cg cl, CsP n G L cn cg cl → n63 (relS (xSm tn tg p.1) (xSm cn cg cl)) = true → ∀ a ∈ [0, 1], ∀ vn vg vl, YsP n G L vn vg vl →
      BytesB a (xSm tn tg p.1) (xSm cn cg cl) (xSm (n + ut) (G + vt) p.2) (xSm vn vg vl) → tn = cn ∧ tg = cg ∧ p.1 = cl := by
  have key : (∀ e ∈ tab62, ∀ n ∈ li16, ∀ tn ∈ mix2 n (Nat.succ n), Nat.ble n tn = true → ∀ ut ∈ [0, 1], Nat.beq (rN tn (Nat.add n ut)) e.1 = true → ∀ G ∈ li16, Nat.ble G n = true → ∀ tg ∈ mix2 G (Nat.succ G), ∀ vt ∈ [0, 1],
      (and (Nat.ble vt ut) (Nat.beq (rG tg (Nat.add G vt)) e.2.1)) = true → ∀ p ∈ e.2.2, (and (or (Nat.blt 0 ut) (Nat.blt 0 n)) (or (Nat.beq ut vt) (Nat.blt 0 p.2))) = true →
      ∀ L, L ≤ 19 → (cond (Nat.beq ut 0) p.2 0) ≤ L → L ≤ (cond (Nat.beq ut 0) p.2 (cond (Nat.beq vt 0) (Nat.pred p.2) 19)) →
        ∀ cn cg cl, CsP n G L cn cg cl → n63 (relS (xSm tn tg p.1) (xSm cn cg cl)) = true → ∀ a ∈ [0, 1], ∀ vn vg vl, YsP n G L vn vg vl →
          BytesB a (xSm tn tg p.1) (xSm cn cg cl) (xSm (n + ut) (G + vt) p.2) (xSm vn vg vl) → tn = cn ∧ tg = cg ∧ p.1 = cl) ∧ True := by
    have h0 := of_eq_true kB
    unfold chkB at h0
    refine AllC_of (fun e _ h => ?_) h0
    refine AllC_of (fun n _ h => ?_) h
    refine AllC_of (fun tn _ h => ?_) h
    refine whenC_of (fun _ h => ?_) h
    refine AllC_of (fun ut _ h => ?_) h
    refine whenC_of (fun _ h => ?_) h
    refine AllC_of (fun G _ h => ?_) h
    refine whenC_of (fun _ h => ?_) h
    refine AllC_of (fun tg _ h => ?_) h
    refine AllC_of (fun vt _ h => ?_) h
    refine whenC_of (fun _ h => ?_) h
    refine AllC_of (fun p _ h => ?_) h
    refine whenC_of (fun k h => ?_) h
    exact exB_of h
  refine key.1 e he n (mem_li16 hn) tn ht (Nat.ble_eq.symm ▸ htn) ut hut (by rw [beqD]; simpa using ha) G (mem_li16 (by omega)) (Nat.ble_eq.symm ▸ hG) tg hg vt hvt (by rw [beqD]; simpa using ⟨hvu, hb⟩) p hp ?_ L hL ?_ ?_
  · rcases hu with ⟨h1, h2, h3, h4⟩ | ⟨h1, h2, h3, h4⟩ | ⟨h1, h2, h3⟩
    · have e1 : Nat.blt 0 n = true := bltI h4
      have e2 : ut = vt := by omega
      subst e2
      simp [e1]
    · have e1 : Nat.blt 0 ut = true := bltI (by omega)
      have e2 : Nat.blt 0 p.2 = true := bltI (by omega)
      simp [e1, e2]
    · have e1 : Nat.blt 0 ut = true := bltI (by omega)
      have e2 : ut = vt := by omega
      subst e2
      simp [e1]
  · rcases hu with ⟨h1, h2, h3, h4⟩ | ⟨h1, h2, h3, h4⟩ | ⟨h1, h2, h3⟩
    · rw [show ut = 0 by omega]; exact Nat.le_of_eq h3
    · rw [show ut = 1 by omega]; exact Nat.zero_le _
    · rw [show ut = 1 by omega]; exact Nat.zero_le _
  · rcases hu with ⟨h1, h2, h3, h4⟩ | ⟨h1, h2, h3, h4⟩ | ⟨h1, h2, h3⟩
    · rw [show ut = 0 by omega]; exact Nat.le_of_eq h3.symm
    · rw [show ut = 1 by omega, show vt = 0 by omega]; show L ≤ p.2 - 1; omega
    · rw [show ut = 1 by omega, show vt = 1 by omega]; exact hL

/-- Pieces of 63 bytes: no state but the base is said. -/
theorem ghostB {n G L a tn tg tl cn cg cl un ug ul vn vg vl : Nat} (hn : n ≤ 16) (hG : G ≤ n) (hL : L ≤ 19) (ha : a = 0 ∨ a = 1) (ht : tn ∈ mix2 n (n + 1)) (htn : n ≤ tn) (hg : tg ∈ mix2 G (G + 1)) (hl : tl ≤ 19)
    (hc : CsP n G L cn cg cl) (hu : YsP n G L un ug ul) (hv : YsP n G L vn vg vl) (hb : BytesB a (xSm tn tg tl) (xSm cn cg cl) (xSm un ug ul) (xSm vn vg vl)) : tn = cn ∧ tg = cg ∧ tl = cl := by
  obtain ⟨ut, vt, hut, hvt, hvu, rfl, rfl⟩ : ∃ ut vt, ut ∈ [0, 1] ∧ vt ∈ [0, 1] ∧ vt ≤ ut ∧ un = n + ut ∧ ug = G + vt := by
    rcases hu with ⟨h1, h2, _, _⟩ | ⟨h1, h2, _, _⟩ | ⟨h1, h2, _⟩
    · exact ⟨0, 0, by simp, by simp, by omega, h1, h2⟩
    · exact ⟨1, 0, by simp, by simp, by omega, h1, h2⟩
    · exact ⟨1, 1, by simp, by simp, by omega, h1, h2⟩
  have hul : ul ≤ 19 := by rcases hu with h | h | h <;> omega
  have hut' : ut = 0 ∨ ut = 1 := by simpa using hut
  have hvt' : vt = 0 ∨ vt = 1 := by simpa using hvt
  have e1 := specD n (mem_li16 hn) tn ht (n + ut) (by rcases hut' with rfl | rfl <;> simp)
  have e2 := specD G (mem_li16 (by omega)) tg hg (G + vt) (by rcases hvt' with rfl | rfl <;> simp)
  simp only [Bool.and_eq_true, Bool.or_eq_true, Nat.blt_eq, Nat.beq_eq] at e1 e2
  obtain ⟨e3, _, e4, _⟩ := e1
  obtain ⟨_, e5, _, e6⟩ := e2
  have hV := specV _ (isIn_of e3) _ (isIn_of e5) tl (mem_li20 hl) ul (mem_li20 hul)
  rw [rS_eq (by omega) (by omega) (by omega)] at hV
  have hd := sum_diff (a := a) (x := xSm tn tg tl) (y := xSm (n + ut) (G + vt) ul) (xSm_le (by omega) (by omega) (by omega))
  have hz := hV (by
    have h62 : sS a (xSm tn tg tl) / 256 % 256 = sS a (xSm (n + ut) (G + vt) ul) / 256 % 256 := hb.u62
    show or (Nat.ble (_ % 65536) 255) (Nat.ble 65280 (_ % 65536)) = true
    rw [Bool.or_eq_true, Nat.ble_eq, Nat.ble_eq]
    generalize (xSm tn tg tl + 206158430112 - xSm (n + ut) (G + vt) ul) % 2147483647 = e at *
    generalize sS a (xSm tn tg tl) = s at *
    generalize sS a (xSm (n + ut) (G + vt) ul) = t at *
    omega)
  rw [Bool.or_eq_true] at hz
  rcases hz with hz | hz
  · obtain ⟨e, he, h1⟩ := List.any_eq_true.1 hz
    simp only [Bool.and_eq_true, Nat.beq_eq] at h1
    obtain ⟨h1, h2, h3⟩ := h1
    obtain ⟨p, hp, h4⟩ := List.any_eq_true.1 h3
    simp only [Bool.and_eq_true, Nat.beq_eq] at h4
    obtain ⟨h4, h5⟩ := h4
    have h63 : n63 (relS (xSm tn tg tl) (xSm cn cg cl)) = true := by
      have hcn : cn < 20 := by rcases hc with h | h | h <;> omega
      have hcg : cg < 20 := by rcases hc with h | h | h <;> omega
      have hcl : cl < 20 := by rcases hc with h | h | h <;> omega
      have hle := xSm_le (n := cn) (g := cg) (l := cl) (by omega) (by omega) (by omega)
      have hle2 : xSm cn cg cl ≤ 68719476704 := by
        show cn / 10 * 1708647177 + cn % 10 * 416090840 + (cg / 10 * 1460943220 + cg % 10 * 2019472771) + (cl / 10 * 2039779850 + cl % 10 * 333819619) ≤ _
        omega
      have h7 : sS a (xSm tn tg tl) % 256 = sS a (xSm cn cg cl) % 256 := hb.c63
      have hd := sum_diff (a := a) (x := xSm tn tg tl) (y := xSm cn cg cl) hle
      show Nat.ble (((xSm tn tg tl + 68719476704 - xSm cn cg cl) % 2147483647 + 1) % 256) 1 = true
      rw [Nat.ble_eq]
      have : (xSm tn tg tl + 68719476704 - xSm cn cg cl) % 2147483647 = (xSm tn tg tl + 206158430112 - xSm cn cg cl) % 2147483647 := by omega
      rw [this]
      generalize (xSm tn tg tl + 206158430112 - xSm cn cg cl) % 2147483647 = e at *
      generalize sS a (xSm tn tg tl) = s at *
      generalize sS a (xSm cn cg cl) = t at *
      omega
    have := specB hn hG hL he ht htn hut h1.symm hg hvt hvu h2.symm hp (by rw [h5]; exact hu) cn cg cl hc (by rw [h4]; exact h63) a (by rcases ha with rfl | rfl <;> simp) vn vg vl hv (by rw [h4, h5]; exact hb)
    rw [h4] at this
    exact this
  · simp only [Bool.and_eq_true, Nat.beq_eq] at hz
    obtain ⟨z1, z2, z3⟩ := hz
    have q1 := e4.resolve_right (by omega)
    have q2 := e6.resolve_right (by omega)
    exact absurd (by rw [hb.c63.symm, q1, q2, z3]) hb.u63

/-- Pieces on a sector of zero bytes: no state is said. -/
theorem ghostZ {n G L a tn tg tl : Nat} (hn : n ≤ 1) (hG : G ≤ n) (hL : L ≤ 19) (ha : a = 0 ∨ a = 1) (ht : tn ∈ mix2 n (n + 1)) (htn : n ≤ tn) (hg : tg ∈ mix2 G (G + 1)) (hl : tl ≤ 19) (h0 : lo0 (sS a (xSm tn tg tl)) = 0) :
    lo1 (sS a (xSm tn tg tl)) ≠ 0 ∧ ∀ un ug ul vn vg vl, YsP n G L un ug ul → YsP n G L vn vg vl → lo1 (sS a (xSm tn tg tl)) = lo1 (sS a (xSm un ug ul)) → lo0 (sS a (xSm un ug ul)) ≠ 0 →
      lo2 (sS a (xSm tn tg tl)) = lo2 (sS a (xSm vn vg vl)) → ¬ (lo1 (sS a (xSm tn tg tl)) = lo1 (sS a (xSm vn vg vl)) ∧ lo0 (sS a (xSm tn tg tl)) = lo0 (sS a (xSm vn vg vl))) → False := by
  have hx : ∀ n G x k, exZ n G x k → (∀ a ∈ [0, 1], Nat.beq (lo0 (sS a x)) 0 = true → Nat.blt 0 (lo1 (sS a x)) = true ∧ ∀ L, L ≤ 19 → ∀ un ug ul, YsP n G L un ug ul → (and (Nat.beq (lo1 (sS a x)) (lo1 (sS a (xSm un ug ul)))) (not (Nat.beq (lo0 (sS a (xSm un ug ul))) 0))) = true →
      ∀ L, L ≤ 19 → ∀ vn vg vl, YsP n G L vn vg vl → (not (and (Nat.beq (lo2 (sS a x)) (lo2 (sS a (xSm vn vg vl)))) (not (and (Nat.beq (lo1 (sS a x)) (lo1 (sS a (xSm vn vg vl)))) (Nat.beq (lo0 (sS a x)) (lo0 (sS a (xSm vn vg vl)))))))) = true) ∧ k := by
    intro n G x k h
    unfold exZ at h
    refine AllC_of (fun a k h => ?_) h
    rw [letC_eq] at h
    refine whenC_of (fun k h => ?_) h
    obtain ⟨h1, h⟩ := needC_of h
    obtain ⟨h2, h⟩ := forY_of (P := fun un ug ul _ _ => (and (Nat.beq (lo1 (sS a x)) (lo1 (sS a (xSm un ug ul)))) (not (Nat.beq (lo0 (sS a (xSm un ug ul))) 0))) = true →
      ∀ L, L ≤ 19 → ∀ vn vg vl, YsP n G L vn vg vl → ∃ d e, d ≤ L ∧ L ≤ e ∧ (not (and (Nat.beq (lo2 (sS a x)) (lo2 (sS a (xSm vn vg vl)))) (not (and (Nat.beq (lo1 (sS a x)) (lo1 (sS a (xSm vn vg vl)))) (Nat.beq (lo0 (sS a x)) (lo0 (sS a (xSm vn vg vl)))))))) = true) (fun un ug ul l1 h1 k h => by
        rw [letC_eq] at h
        refine whenC_of (fun k h => forY_of (fun vn vg vl l2 h2 k h => ?_) h) h
        rw [letC_eq] at h
        exact needC_of h) h
    refine ⟨⟨h1, fun L hL un ug ul hu hb L' hL' vn vg vl hv => ?_⟩, h⟩
    obtain ⟨_, _, _, _, h3⟩ := h2 L hL un ug ul hu
    obtain ⟨_, _, _, _, h4⟩ := h3 hb L' hL' vn vg vl hv
    exact h4
  have key : (∀ n ∈ [0, 1], ∀ tn ∈ mix2 n (Nat.succ n), Nat.ble n tn = true → ∀ G ∈ [0, 1], Nat.ble G n = true → ∀ tg ∈ mix2 G (Nat.succ G), ∀ tl ∈ li20, (∀ a ∈ [0, 1], Nat.beq (lo0 (sS a (xSm tn tg tl))) 0 = true → Nat.blt 0 (lo1 (sS a (xSm tn tg tl))) = true ∧
      ∀ L, L ≤ 19 → ∀ un ug ul, YsP n G L un ug ul → (and (Nat.beq (lo1 (sS a (xSm tn tg tl))) (lo1 (sS a (xSm un ug ul)))) (not (Nat.beq (lo0 (sS a (xSm un ug ul))) 0))) = true →
      ∀ L, L ≤ 19 → ∀ vn vg vl, YsP n G L vn vg vl → (not (and (Nat.beq (lo2 (sS a (xSm tn tg tl))) (lo2 (sS a (xSm vn vg vl)))) (not (and (Nat.beq (lo1 (sS a (xSm tn tg tl))) (lo1 (sS a (xSm vn vg vl)))) (Nat.beq (lo0 (sS a (xSm tn tg tl))) (lo0 (sS a (xSm vn vg vl)))))))) = true)) ∧ True := by
    have h0 := of_eq_true kZ
    unfold chkZ at h0
    refine AllC_of (fun n _ h => ?_) h0
    refine AllC_of (fun tn _ h => ?_) h
    refine whenC_of (fun _ h => ?_) h
    refine AllC_of (fun G _ h => ?_) h
    refine whenC_of (fun _ h => ?_) h
    refine AllC_of (fun tg _ h => ?_) h
    refine AllC_of (fun tl _ h => ?_) h
    exact hx _ _ _ _ h
  have m01 : ∀ x : Nat, x ≤ 1 → x ∈ [0, 1] := fun x hx => by
    have : x = 0 ∨ x = 1 := by omega
    rcases this with rfl | rfl <;> simp
  have h1 := key.1 n (m01 n hn) tn ht (Nat.ble_eq.symm ▸ htn) G (m01 G (by omega)) (Nat.ble_eq.symm ▸ hG) tg hg tl (mem_li20 hl) a (m01 a (by omega)) (by rw [beqD]; simpa using h0)
  obtain ⟨h2, h3⟩ := h1
  rw [Nat.blt_eq] at h2
  refine ⟨by omega, fun un ug ul vn vg vl hu hv e1 e2 e3 e4 => ?_⟩
  have h4 := h3 L hL un ug ul hu (by simp only [beqD]; simpa using ⟨e1, e2⟩) L hL vn vg vl hv
  simp only [beqD, Bool.not_eq_true', Bool.and_eq_false_iff, decide_eq_false_iff_not, Bool.not_eq_false', Bool.and_eq_true, decide_eq_true_eq] at h4
  rcases h4 with h4 | h4
  · exact h4 e3
  · exact e4 h4

end Go.Proofs.YtfjajkgfgigodaaGreatDoor

/- Torn heads of the log: the bytes of a head. -/
namespace Go.Proofs.YtfjajkgfgigodaaGreatDoor
open Go

theorem sum_pv (l : List UInt8) : sumL l = (l.foldl (fun (s : Int) (b : UInt8) => s * 257 + b.toNat + 1) 0) % 2147483647 := by
  have key : ∀ (l : List UInt8) (s t : Int), t = s % 2147483647 → l.foldl (fun (s : Int) (b : UInt8) => (s * 257 + b.toNat + 1) % 2147483647) t = (l.foldl (fun (s : Int) (b : UInt8) => s * 257 + b.toNat + 1) s) % 2147483647 := by
    intro l
    induction l with
    | nil => intro s t h; exact h
    | cons b l ih => intro s t h; exact ih _ _ (by subst h; show (s % 2147483647 * 257 + b.toNat + 1) % 2147483647 = (s * 257 + b.toNat + 1) % 2147483647; omega)
  exact key l 0 0 (by decide)

theorem dig_small (w n : Nat) (h : n < 100) : dig (w + 2) n = List.replicate w 48 ++ [UInt8.ofNat (48 + n / 10), UInt8.ofNat (48 + n % 10)] := by
  have z : ∀ w, dig w 0 = List.replicate w 48 := fun w => by
    induction w with
    | zero => rfl
    | succ w ih =>
      rw [dig, ih, List.replicate_succ']
      rfl
  rw [dig, dig, show n / 10 / 10 = 0 by omega, z, show n / 10 % 10 = n / 10 by omega, List.append_assoc]
  rfl

theorem digS_small {s : St} (h1 : s.num < 100) (h2 : s.gen < 100) (h3 : s.len < 100) : digS s = [48, 48, 48, 48, 48, 48, 48, UInt8.ofNat (48 + s.num / 10), UInt8.ofNat (48 + s.num % 10), 48, 48, 48, 48, UInt8.ofNat (48 + s.gen / 10), UInt8.ofNat (48 + s.gen % 10), 48, 48, UInt8.ofNat (48 + s.len / 10), UInt8.ofNat (48 + s.len % 10)] := by
  unfold digS
  rw [dig_small 7 _ h1, dig_small 4 _ h2, dig_small 2 _ h3]
  rfl

theorem dByte {d : Nat} (h : d < 10) : ((UInt8.ofNat (48 + d)).toNat : Int) = 48 + d := by
  rw [UInt8.toNat_ofNat', Nat.mod_eq_of_lt (by omega)]
  omega

set_option maxRecDepth 100000 in
set_option maxHeartbeats 2000000 in
theorem sum_head {a : Nat} (ha : a = 0 ∨ a = 1) {s : St} (h1 : s.num < 100) (h2 : s.gen < 100) (h3 : s.len < 100) : (sumL (preL 0 a (digS s ++ digS s))).toNat = sS a (xSm s.num s.gen s.len) := by
  have e1 : be 8 0 = [0, 0, 0, 0, 0, 0, 0, 0] := rfl
  have e2 : be 4 38 = [0, 0, 0, 38] := by decide
  have e3 : (digS s ++ digS s).length = 38 := by simp [digS_len]
  have e4 : be 4 0 = [0, 0, 0, 0] := rfl
  have e5 : be 4 1 = [0, 0, 0, 1] := by decide
  have d1 := dByte (d := s.num / 10) (by omega)
  have d2 := dByte (d := s.num % 10) (by omega)
  have d3 := dByte (d := s.gen / 10) (by omega)
  have d4 := dByte (d := s.gen % 10) (by omega)
  have d5 := dByte (d := s.len / 10) (by omega)
  have d6 := dByte (d := s.len % 10) (by omega)
  have k : ∀ A : List UInt8, (A = [0, 0, 0, 0] ∧ a = 0 ∨ A = [0, 0, 0, 1] ∧ a = 1) → sumL (be 8 0 ++ A ++ be 4 38 ++ (digS s ++ digS s) ++ List.replicate 2 0) = (sS a (xSm s.num s.gen s.len) : Nat) := by
    intro A hA
    show _ = (((kH a + (s.num / 10 * 1708647177 + s.num % 10 * 416090840 + (s.gen / 10 * 1460943220 + s.gen % 10 * 2019472771) + (s.len / 10 * 2039779850 + s.len % 10 * 333819619))) % 2147483647 : Nat) : Int)
    rw [e1, e2, digS_small h1 h2 h3, sum_pv]
    generalize s.num / 10 = nt at *
    generalize s.num % 10 = nu at *
    generalize s.gen / 10 = gt at *
    generalize s.gen % 10 = gu at *
    generalize s.len / 10 = lt at *
    generalize s.len % 10 = lu at *
    rcases hA with ⟨rfl, rfl⟩ | ⟨rfl, rfl⟩
    · simp only [List.cons_append, List.nil_append, List.replicate, List.foldl_cons, List.foldl_nil, d1, d2, d3, d4, d5, d6]
      have z0 : ((0 : UInt8).toNat : Int) = 0 := rfl
      have z1 : ((48 : UInt8).toNat : Int) = 48 := rfl
      have z2 : ((38 : UInt8).toNat : Int) = 38 := rfl
      have z3 : kH 0 = 94663448 := rfl
      rw [z0, z1, z2, z3]
      omega
    · simp only [List.cons_append, List.nil_append, List.replicate, List.foldl_cons, List.foldl_nil, d1, d2, d3, d4, d5, d6]
      have z0 : ((0 : UInt8).toNat : Int) = 0 := rfl
      have z1 : ((48 : UInt8).toNat : Int) = 48 := rfl
      have z2 : ((38 : UInt8).toNat : Int) = 38 := rfl
      have z4 : ((1 : UInt8).toNat : Int) = 1 := rfl
      have z3 : kH 1 = 1062408993 := rfl
      rw [z0, z1, z2, z4, z3]
      omega
  have e : sumL (preL 0 a (digS s ++ digS s)) = (sS a (xSm s.num s.gen s.len) : Nat) := by
    unfold preL
    rw [e3]
    rcases ha with rfl | rfl
    · rw [e4]; exact k _ (.inl ⟨rfl, rfl⟩)
    · rw [e5]; exact k _ (.inr ⟨rfl, rfl⟩)
  rw [e, Int.toNat_natCast]

/- BYTES -/
def byt (l : List UInt8) (i : Nat) : UInt8 := l.getD i 0

theorem byt_tear {l m : List UInt8} {k p : Nat} (hl : l.length = 64) (_hm : m.length = 64) (hk : k ≤ 64) : byt (l.take k ++ m.drop k) p = if p < k then byt l p else byt m p := by
  unfold byt
  rw [List.getD_eq_getElem?_getD, List.getD_eq_getElem?_getD, List.getD_eq_getElem?_getD]
  split
  · rename_i h
    rw [List.getElem?_append_left (by rw [List.length_take]; omega), List.getElem?_take_of_lt h]
  · rename_i h
    rw [List.getElem?_append_right (by rw [List.length_take]; omega), List.getElem?_drop, List.length_take]
    congr 2
    omega

theorem byt_ext {l m : List UInt8} (hl : l.length = 64) (hm : m.length = 64) (h : ∀ p, p < 64 → byt l p = byt m p) : l = m := by
  apply List.ext_getElem (by omega)
  intro i h1 h2
  have := h i (by omega)
  simpa [byt, List.getD_eq_getElem?_getD, h1, h2] using this

theorem byt_zero (p : Nat) : byt zS p = 0 := by
  unfold byt
  rw [List.getD_eq_getElem?_getD]
  by_cases h : p < 64
  · simp [h]
  · rw [List.getElem?_eq_none (by simp; omega)]; rfl

theorem byt_dig (a : Nat) (s : St) {j : Nat} (hj : j < 19) : byt (headL a s) (35 + j) = (digS s).getD j 0 := by
  have hl := digS_len s
  unfold byt headL
  rw [putL_shape, List.getD_eq_getElem?_getD, List.getD_eq_getElem?_getD, List.getElem?_append_right (by rw [be_length]; omega), List.getElem?_append_right (by simp only [be_length]; omega), List.getElem?_append_right (by simp only [be_length]; omega),
    List.getElem?_append_left (by simp only [be_length, List.length_append, hl]; omega), List.getElem?_append_right (by simp only [be_length, hl]; omega)]
  simp only [be_length, hl]
  congr 2
  omega

theorem byt_sum (a : Nat) (s : St) {j : Nat} (hj : j < 8) : byt (headL a s) (56 + j) = byteOf ((sumL (preL 0 a (digS s ++ digS s))).toNat / 256 ^ (7 - j)) := by
  have hp : (preL 0 a (digS s ++ digS s)).length = 56 := preL_length (by simp [digS_len])
  unfold byt headL putL
  rw [List.getD_eq_getElem?_getD, List.getElem?_append_right (by rw [hp]; omega), hp, show 56 + j - 56 = j by omega, be_get (by omega)]
  rfl

theorem byteOf_inj {n m : Nat} (h : byteOf n = byteOf m) : n % 256 = m % 256 := by
  have := congrArg UInt8.toNat h
  unfold byteOf at this
  rw [UInt8.toNat_ofNat', UInt8.toNat_ofNat'] at this
  omega

theorem byteOf_eq {n m : Nat} (h : n % 256 = m % 256) : byteOf n = byteOf m := by unfold byteOf; rw [h]

/-- The numbers of a head that the checks cover. -/
def Sml (s : St) : Prop := s.num < 100 ∧ s.gen < 100 ∧ s.len < 100

abbrev hS (a : Nat) (s : St) : Nat := sS a (xSm s.num s.gen s.len)

theorem byt63 {a : Nat} (ha : a = 0 ∨ a = 1) {s : St} (h : Sml s) : byt (headL a s) 63 = byteOf (hS a s) := by
  rw [byt_sum a s (j := 7) (by decide), sum_head ha h.1 h.2.1 h.2.2]; simp
theorem byt62 {a : Nat} (ha : a = 0 ∨ a = 1) {s : St} (h : Sml s) : byt (headL a s) 62 = byteOf (hS a s / 256) := by
  rw [byt_sum a s (j := 6) (by decide), sum_head ha h.1 h.2.1 h.2.2]
theorem byt61 {a : Nat} (ha : a = 0 ∨ a = 1) {s : St} (h : Sml s) : byt (headL a s) 61 = byteOf (hS a s / 65536) := by
  rw [byt_sum a s (j := 5) (by decide), sum_head ha h.1 h.2.1 h.2.2]

/- DIGITS OF PIECES -/
theorem ofNat_dig {d e : Nat} (hd : d < 10) (he : e < 10) (h : UInt8.ofNat (48 + d) = UInt8.ofNat (48 + e)) : d = e := by
  have := congrArg UInt8.toNat h
  rw [UInt8.toNat_ofNat', UInt8.toNat_ofNat', Nat.mod_eq_of_lt (by omega), Nat.mod_eq_of_lt (by omega)] at this
  omega

theorem dig_mix {T : St} (hT : T.Fits) {X : St → Prop} (hX : ∀ x, X x → Sml x) (h : ∀ j, j < 19 → ∃ x, X x ∧ (digS T).getD j 0 = (digS x).getD j 0) :
    Sml T ∧ (∃ x y, X x ∧ X y ∧ T.num = x.num / 10 * 10 + y.num % 10) ∧ (∃ x y, X x ∧ X y ∧ T.gen = x.gen / 10 * 10 + y.gen % 10) ∧ ∃ x y, X x ∧ X y ∧ T.len = x.len / 10 * 10 + y.len % 10 := by
  have hx : ∀ x, X x → digS x = _ := fun x hx => digS_small (hX x hx).1 (hX x hx).2.1 (hX x hx).2.2
  have g : ∀ j, j < 19 → ∃ x, X x ∧ (digS T)[j]? = (digS x)[j]? := fun j hj => by
    obtain ⟨x, h1, h2⟩ := h j hj
    refine ⟨x, h1, ?_⟩
    have l1 := digS_len T
    have l2 := digS_len x
    rw [List.getD_eq_getElem?_getD, List.getD_eq_getElem?_getD, List.getElem?_eq_getElem (by omega), List.getElem?_eq_getElem (by omega)] at h2
    rw [List.getElem?_eq_getElem (by omega), List.getElem?_eq_getElem (by omega)]
    exact congrArg some h2
  have q : ∀ j (c : UInt8), j < 19 → (∀ x, X x → (digS x)[j]? = some c) → (digS T)[j]? = some c := fun j c hj hc => by
    obtain ⟨x, h1, h2⟩ := g j hj
    rw [h2, hc x h1]
  have r : ∀ j, j < 19 → ∀ f : St → Nat, (∀ x, X x → (digS x)[j]? = some (UInt8.ofNat (48 + f x))) → ∃ x, X x ∧ (digS T)[j]? = some (UInt8.ofNat (48 + f x)) := fun j hj f hf => by
    obtain ⟨x, h1, h2⟩ := g j hj
    exact ⟨x, h1, by rw [h2, hf x h1]⟩
  obtain ⟨x7, m7, e7⟩ := r 7 (by decide) (fun x => x.num / 10) fun x h => by rw [hx x h]; rfl
  obtain ⟨x8, m8, e8⟩ := r 8 (by decide) (fun x => x.num % 10) fun x h => by rw [hx x h]; rfl
  obtain ⟨x13, m13, e13⟩ := r 13 (by decide) (fun x => x.gen / 10) fun x h => by rw [hx x h]; rfl
  obtain ⟨x14, m14, e14⟩ := r 14 (by decide) (fun x => x.gen % 10) fun x h => by rw [hx x h]; rfl
  obtain ⟨x17, m17, e17⟩ := r 17 (by decide) (fun x => x.len / 10) fun x h => by rw [hx x h]; rfl
  obtain ⟨x18, m18, e18⟩ := r 18 (by decide) (fun x => x.len % 10) fun x h => by rw [hx x h]; rfl
  have e0 := q 0 48 (by decide) fun x h => by rw [hx x h]; rfl
  have e1 := q 1 48 (by decide) fun x h => by rw [hx x h]; rfl
  have e2 := q 2 48 (by decide) fun x h => by rw [hx x h]; rfl
  have e3 := q 3 48 (by decide) fun x h => by rw [hx x h]; rfl
  have e4 := q 4 48 (by decide) fun x h => by rw [hx x h]; rfl
  have e5 := q 5 48 (by decide) fun x h => by rw [hx x h]; rfl
  have e6 := q 6 48 (by decide) fun x h => by rw [hx x h]; rfl
  have e9 := q 9 48 (by decide) fun x h => by rw [hx x h]; rfl
  have e10 := q 10 48 (by decide) fun x h => by rw [hx x h]; rfl
  have e11 := q 11 48 (by decide) fun x h => by rw [hx x h]; rfl
  have e12 := q 12 48 (by decide) fun x h => by rw [hx x h]; rfl
  have e15 := q 15 48 (by decide) fun x h => by rw [hx x h]; rfl
  have e16 := q 16 48 (by decide) fun x h => by rw [hx x h]; rfl
  have hn7 := hX x7 m7
  have hn8 := hX x8 m8
  have hn13 := hX x13 m13
  have hn14 := hX x14 m14
  have hn17 := hX x17 m17
  have hn18 := hX x18 m18
  unfold Sml at hn7 hn8 hn13 hn14 hn17 hn18
  have b1 : x7.num / 10 * 10 + x8.num % 10 < 100 := by omega
  have b2 : x13.gen / 10 * 10 + x14.gen % 10 < 100 := by omega
  have b3 : x17.len / 10 * 10 + x18.len % 10 < 100 := by omega
  have hU : digS T = digS ⟨x7.num / 10 * 10 + x8.num % 10, x13.gen / 10 * 10 + x14.gen % 10, x17.len / 10 * 10 + x18.len % 10⟩ := by
    rw [digS_small (s := ⟨x7.num / 10 * 10 + x8.num % 10, x13.gen / 10 * 10 + x14.gen % 10, x17.len / 10 * 10 + x18.len % 10⟩) b1 b2 b3]
    have p1 : (x7.num / 10 * 10 + x8.num % 10) / 10 = x7.num / 10 := by omega
    have p2 : (x7.num / 10 * 10 + x8.num % 10) % 10 = x8.num % 10 := by omega
    have p3 : (x13.gen / 10 * 10 + x14.gen % 10) / 10 = x13.gen / 10 := by omega
    have p4 : (x13.gen / 10 * 10 + x14.gen % 10) % 10 = x14.gen % 10 := by omega
    have p5 : (x17.len / 10 * 10 + x18.len % 10) / 10 = x17.len / 10 := by omega
    have p6 : (x17.len / 10 * 10 + x18.len % 10) % 10 = x18.len % 10 := by omega
    rw [p1, p2, p3, p4, p5, p6]
    apply List.ext_getElem?
    intro j
    have hlT := digS_len T
    match j with
    | 0 => exact e0
    | 1 => exact e1
    | 2 => exact e2
    | 3 => exact e3
    | 4 => exact e4
    | 5 => exact e5
    | 6 => exact e6
    | 7 => exact e7
    | 8 => exact e8
    | 9 => exact e9
    | 10 => exact e10
    | 11 => exact e11
    | 12 => exact e12
    | 13 => exact e13
    | 14 => exact e14
    | 15 => exact e15
    | 16 => exact e16
    | 17 => exact e17
    | 18 => exact e18
    | n + 19 => rw [List.getElem?_eq_none (by omega), List.getElem?_eq_none (by simp)]
  have hE := stOf_dig T hT []
  rw [hU, stOf_dig _ ⟨Nat.lt_of_lt_of_le b1 (by decide), Nat.lt_of_lt_of_le b2 (by decide), Nat.lt_of_lt_of_le b3 (by decide)⟩ []] at hE
  rw [← hE]
  exact ⟨⟨b1, b2, b3⟩, ⟨x7, x8, m7, m8, rfl⟩, ⟨x13, x14, m13, m14, rfl⟩, ⟨x17, x18, m17, m18, rfl⟩⟩

end Go.Proofs.YtfjajkgfgigodaaGreatDoor

/- Torn heads of the log: what a sector holds that was written in pieces, and that it says no other state. -/
namespace Go.Proofs.YtfjajkgfgigodaaGreatDoor
open Go

theorem mem_mix2 {p q x y t : Nat} (hx : x = p ∨ x = q) (hy : y = p ∨ y = q) (ht : t = x / 10 * 10 + y % 10) : t ∈ mix2 p q := by
  unfold mix2
  show t ∈ cond (Nat.beq (p / 10) (q / 10)) [p, q] [p, q, p / 10 * 10 + q % 10, q / 10 * 10 + p % 10]
  rw [beqD]
  by_cases h : p / 10 = q / 10
  · rw [decide_eq_true h]
    simp only [cond_true, List.mem_cons, List.not_mem_nil, or_false]
    rcases hx with rfl | rfl <;> rcases hy with rfl | rfl <;> omega
  · rw [decide_eq_false h]
    simp only [cond_false, List.mem_cons, List.not_mem_nil, or_false]
    rcases hx with rfl | rfl <;> rcases hy with rfl | rfl <;> omega

theorem mem_mix3 {p q r x y t : Nat} (hx : x = p ∨ x = q ∨ x = r) (hy : y = p ∨ y = q ∨ y = r) (ht : t = x / 10 * 10 + y % 10) : t ∈ mix3 p q r := by
  unfold mix3
  show t ∈ cond (and (Nat.beq (p / 10) (q / 10)) (Nat.beq (q / 10) (r / 10))) [p, q, r] [p, q, r, p / 10 * 10 + q % 10, p / 10 * 10 + r % 10, q / 10 * 10 + p % 10, q / 10 * 10 + r % 10, r / 10 * 10 + p % 10, r / 10 * 10 + q % 10]
  rw [beqD, beqD]
  by_cases h : p / 10 = q / 10 ∧ q / 10 = r / 10
  · rw [decide_eq_true h.1, decide_eq_true h.2]
    simp only [Bool.and_true, cond_true, List.mem_cons, List.not_mem_nil, or_false]
    rcases hx with rfl | rfl | rfl <;> rcases hy with rfl | rfl | rfl <;> omega
  · have : (decide (p / 10 = q / 10) && decide (q / 10 = r / 10)) = false := by
      rw [Bool.and_eq_false_iff, decide_eq_false_iff_not, decide_eq_false_iff_not]
      exact Decidable.not_and_iff_not_or_not.1 h
    rw [this]
    simp only [cond_false, List.mem_cons, List.not_mem_nil, or_false]
    rcases hx with rfl | rfl | rfl <;> rcases hy with rfl | rfl | rfl <;> omega

/-- The states of pieces over the present one. -/
def Pc (s y : St) : Prop := YsP s.num s.gen s.len y.num y.gen y.len

/-- What was there before pieces were written: the present head, or the one before it, or nothing. -/
def BaseOf (s : St) (b : Nat) (C : List UInt8) : Prop := (∃ c : St, CsP s.num s.gen s.len c.num c.gen c.len ∧ C = headL b c) ∨ (s.num ≤ 1 ∧ C = zS)

/-- Pieces that do not reach the last two bytes. -/
structure PcA (b : Nat) (s : St) (C M : List UInt8) : Prop where
  p62 : byt M 62 = byt C 62
  dig : ∀ j, j < 19 → byt M (35 + j) = byt C (35 + j) ∨ ∃ y, Pc s y ∧ byt M (35 + j) = byt (headL b y) (35 + j)

/-- Pieces of 63 bytes, and others. -/
structure PcB (b : Nat) (s : St) (C M : List UInt8) : Prop where
  dig : ∀ j, j < 19 → ∃ y, Pc s y ∧ byt M (35 + j) = byt (headL b y) (35 + j)
  u : ∃ u, Pc s u ∧ byt M 62 = byt (headL b u) 62 ∧ byt (headL b u) 63 ≠ byt C 63
  v : ∃ v, Pc s v ∧ byt M 61 = byt (headL b v) 61 ∧ ¬ (byt M 62 = byt (headL b v) 62 ∧ byt M 63 = byt (headL b v) 63)

/-- A sector of a head that was written in pieces over what was there. -/
def HB (b : Nat) (s : St) (M : List UInt8) : Prop := M.length = 64 ∧ ∃ C, BaseOf s b C ∧ byt M 63 = byt C 63 ∧ (PcA b s C M ∨ PcB b s C M)

theorem BaseOf.len {s : St} {b : Nat} {C : List UInt8} (h : BaseOf s b C) : C.length = 64 := by
  rcases h with ⟨c, _, rfl⟩ | ⟨_, rfl⟩
  · exact headL_len _ _
  · rfl

theorem hb_base {s : St} {b : Nat} {C : List UInt8} (h : BaseOf s b C) : HB b s C := ⟨h.len, C, h, rfl, .inl ⟨rfl, fun _ _ => .inl rfl⟩⟩

/-- Another piece: the head is written, or the sector is one of pieces again. -/
theorem hb_tear {s y : St} {b k : Nat} {M : List UInt8} (h : HB b s M) (hy : Pc s y) (hk : k < 64) : (headL b y).take k ++ M.drop k = headL b y ∨ HB b s ((headL b y).take k ++ M.drop k) := by
  obtain ⟨hl, C, hC, h63, h⟩ := h
  have hly := headL_len b y
  have ht := fun p => byt_tear (p := p) hly hl (by omega : k ≤ 64)
  have hlen : ((headL b y).take k ++ M.drop k).length = 64 := by simp [hly, hl]; omega
  generalize hM : (headL b y).take k ++ M.drop k = M' at *
  have e63 : byt M' 63 = byt C 63 := by rw [ht, if_neg (by omega), h63]
  by_cases h61 : k ≤ 61
  · right
    refine ⟨hlen, C, hC, e63, ?_⟩
    rcases h with h | h
    · refine .inl ⟨by rw [ht, if_neg (by omega)]; exact h.p62, fun j hj => ?_⟩
      rw [ht]
      split
      · exact .inr ⟨y, hy, rfl⟩
      · exact h.dig j hj
    · obtain ⟨u, hu, u1, u2⟩ := h.u
      obtain ⟨v, hv, v1, v2⟩ := h.v
      refine .inr ⟨fun j hj => ?_, ⟨u, hu, by rw [ht, if_neg (by omega)]; exact u1, u2⟩, ⟨v, hv, by rw [ht, if_neg (by omega)]; exact v1, by rw [ht 62, ht 63, if_neg (by omega), if_neg (by omega)]; exact v2⟩⟩
      rw [ht]
      split
      · exact ⟨y, hy, rfl⟩
      · exact h.dig j hj
  have hall : ∀ j, j < 19 → byt M' (35 + j) = byt (headL b y) (35 + j) := fun j hj => by rw [ht, if_pos (by omega)]
  by_cases hw : byt M' 62 = byt (headL b y) 62 ∧ byt M' 63 = byt (headL b y) 63
  · left
    refine byt_ext hlen hly fun p hp => ?_
    rw [ht]
    split
    · rfl
    · have : p = 62 ∨ p = 63 := by omega
      rcases this with rfl | rfl
      · rw [← hw.1, ht, if_neg (by assumption)]
      · rw [← hw.2, ht, if_neg (by assumption)]
  · right
    refine ⟨hlen, C, hC, e63, ?_⟩
    by_cases h62 : k = 62
    · rcases h with h | h
      · exact .inl ⟨by rw [ht, if_neg (by omega)]; exact h.p62, fun j hj => .inr ⟨y, hy, hall j hj⟩⟩
      · obtain ⟨u, hu, u1, u2⟩ := h.u
        exact .inr ⟨fun j hj => ⟨y, hy, hall j hj⟩, ⟨u, hu, by rw [ht, if_neg (by omega)]; exact u1, u2⟩, ⟨y, hy, by rw [ht, if_pos (by omega)], hw⟩⟩
    · have e62 : byt M' 62 = byt (headL b y) 62 := by rw [ht, if_pos (by omega)]
      exact .inr ⟨fun j hj => ⟨y, hy, hall j hj⟩, ⟨y, hy, e62, fun e => hw ⟨e62, by rw [e63, e]⟩⟩, ⟨y, hy, by rw [ht, if_pos (by omega)], hw⟩⟩

/-- The numbers of a short log. -/
structure Shrt (s : St) : Prop where
  num : s.num ≤ 16
  gen : s.gen ≤ s.num
  len : s.len ≤ 19

theorem Pc.sml {s y : St} (hs : Shrt s) (h : Pc s y) : Sml y := by
  have h1 := hs.num
  have h2 := hs.gen
  have h3 := hs.len
  unfold Pc YsP at h
  refine ⟨?_, ?_, ?_⟩ <;> omega

theorem CsP.sml {s c : St} (hs : Shrt s) (h : CsP s.num s.gen s.len c.num c.gen c.len) : Sml c ∧ c.len ≤ 19 := by
  have h1 := hs.num
  have h2 := hs.gen
  have h3 := hs.len
  unfold CsP at h
  refine ⟨⟨?_, ?_, ?_⟩, ?_⟩ <;> omega

theorem dig_ne_zero (T : St) {j : Nat} (hj : j < 19) : (digS T).getD j 0 ≠ 0 := by
  intro h0
  have hl := digS_len T
  have hm : (digS T).getD j 0 ∈ digS T ++ digS T := by
    rw [List.getD_eq_getElem?_getD, List.getElem?_eq_getElem (by omega)]
    simp
  obtain ⟨_, _, h3⟩ := headB_iff.1 (headB_dig T)
  have := h3 _ hm
  rw [h0] at this
  exact absurd this (by decide)

theorem lo0_eq (s : Nat) : lo0 s = s % 256 := rfl
theorem lo1_eq (s : Nat) : lo1 s = s / 256 % 256 := rfl

/-- No state is said but the present one and older ones. -/
theorem no_ghost {s T : St} {b half : Nat} {M : List UInt8} (hb : b = 0 ∨ b = 1) (hs : Shrt s) (h : HB b s M) (hp : parseH b M half = some T) : T = s ∨ T.num < s.num := by
  obtain ⟨rfl, hF, _⟩ := (parse_iff (by omega)).1 hp
  obtain ⟨_, C, hC, h63, h⟩ := h
  by_cases hT : T.num < s.num
  · exact .inr hT
  have h1 := hs.num
  have h2 := hs.gen
  have h3 := hs.len
  have hd : ∀ j, j < 19 → byt (headL b T) (35 + j) = (digS T).getD j 0 := fun j hj => byt_dig b T hj
  have hn0 : ∀ y, Pc s y → (y.num = s.num ∨ y.num = s.num + 1) ∧ (y.gen = s.gen ∨ y.gen = s.gen + 1) ∧ y.len ≤ 19 := fun y hy => by
    unfold Pc YsP at hy; omega
  rcases hC with ⟨c, hc, rfl⟩ | ⟨hz, rfl⟩
  · have hcs := hc.sml hs
    have hcn : c.num = Nat.pred s.num ∨ c.num = s.num := by
      have : Nat.pred s.num = s.num - 1 := rfl
      unfold CsP at hc; omega
    have hcg : c.gen = Nat.pred s.gen ∨ c.gen = s.gen := by
      have : Nat.pred s.gen = s.gen - 1 := rfl
      unfold CsP at hc; omega
    have hcT : c = T → T = s ∨ T.num < s.num := by
      rintro rfl
      unfold CsP at hc
      rcases hc with hc | hc | hc
      · left
        cases c; cases s
        simp only at hc
        obtain ⟨rfl, rfl, rfl, _⟩ := hc
        rfl
      · right; omega
      · right; omega
    have fin : T.num = c.num ∧ T.gen = c.gen ∧ T.len = c.len → c = T := by
      rintro ⟨e1, e2, e3⟩
      cases c; cases T
      simp only at e1 e2 e3
      subst e1 e2 e3
      rfl
    rcases h with h | h
    · obtain ⟨hTs, ⟨x1, y1, m1, n1, t1⟩, ⟨x2, y2, m2, n2, t2⟩, ⟨x3, y3, m3, n3, t3⟩⟩ := dig_mix hF (X := fun x => x = c ∨ Pc s x) (fun x hx => by rcases hx with rfl | hx; exact hcs.1; exact hx.sml hs) (fun j hj => by
        rcases h.dig j hj with e | ⟨y, hy, e⟩
        · exact ⟨c, .inl rfl, by rw [← hd j hj, e, byt_dig b c hj]⟩
        · exact ⟨y, .inr hy, by rw [← hd j hj, e, byt_dig b y hj]⟩)
      have hm : ∀ x, (x = c ∨ Pc s x) → (x.num = Nat.pred s.num ∨ x.num = s.num ∨ x.num = Nat.succ s.num) ∧ (x.gen = Nat.pred s.gen ∨ x.gen = s.gen ∨ x.gen = Nat.succ s.gen) ∧ x.len ≤ 19 := fun x hx => by
        rcases hx with rfl | hx
        · exact ⟨by omega, by omega, hcs.2⟩
        · have := hn0 x hx
          exact ⟨by omega, by omega, this.2.2⟩
      have q1 := hm x1 m1
      have q2 := hm y1 n1
      have q3 := hm x2 m2
      have q4 := hm y2 n2
      have q5 := hm x3 m3
      have q6 := hm y3 n3
      have s63 : hS b T % 256 = hS b c % 256 := byteOf_inj (by rw [← byt63 hb hTs, ← byt63 hb hcs.1, h63])
      have s62 : hS b T / 256 % 256 = hS b c / 256 % 256 := byteOf_inj (by rw [← byt62 hb hTs, ← byt62 hb hcs.1, h.p62])
      exact hcT (fin (ghostA (a := b) h1 (by omega) (mem_mix3 q1.1 q2.1 t1) (by omega) (mem_mix3 q3.2.1 q4.2.1 t2) (by omega) hcn hcg hcs.2 (by
        show hS b T % 65536 = hS b c % 65536
        omega)))
    · obtain ⟨hTs, ⟨x1, y1, m1, n1, t1⟩, ⟨x2, y2, m2, n2, t2⟩, ⟨x3, y3, m3, n3, t3⟩⟩ := dig_mix hF (X := fun x => Pc s x) (fun x hx => hx.sml hs) (fun j hj => by
        obtain ⟨y, hy, e⟩ := h.dig j hj
        exact ⟨y, hy, by rw [← hd j hj, e, byt_dig b y hj]⟩)
      obtain ⟨u, hu, u1, u2⟩ := h.u
      obtain ⟨v, hv, v1, v2⟩ := h.v
      have hus := hu.sml hs
      have hvs := hv.sml hs
      have q1 := hn0 x1 m1
      have q2 := hn0 y1 n1
      have q3 := hn0 x2 m2
      have q4 := hn0 y2 n2
      have q5 := hn0 x3 m3
      have q6 := hn0 y3 n3
      rw [byt63 hb hTs, byt63 hb hcs.1] at h63
      rw [byt62 hb hTs, byt62 hb hus] at u1
      rw [byt63 hb hus, byt63 hb hcs.1] at u2
      rw [byt61 hb hTs, byt61 hb hvs] at v1
      rw [byt62 hb hTs, byt62 hb hvs, byt63 hb hTs, byt63 hb hvs] at v2
      exact hcT (fin (ghostB (a := b) (L := s.len) h1 h2 h3 hb (mem_mix2 q1.1 q2.1 t1) (by omega) (mem_mix2 q3.2.1 q4.2.1 t2) (by omega) hc hu hv
        ⟨byteOf_inj h63, byteOf_inj u1, fun e => u2 (byteOf_eq e), byteOf_inj v1, fun e => v2 ⟨byteOf_eq e.1, byteOf_eq e.2⟩⟩))
  · exfalso
    rw [byt_zero] at h63
    have hX : ∀ j, j < 19 → ∃ y, Pc s y ∧ byt (headL b T) (35 + j) = byt (headL b y) (35 + j) := fun j hj => by
      rcases h with h | h
      · rcases h.dig j hj with e | e
        · rw [byt_zero, hd j hj] at e
          exact absurd e (dig_ne_zero T hj)
        · exact e
      · exact h.dig j hj
    obtain ⟨hTs, ⟨x1, y1, m1, n1, t1⟩, ⟨x2, y2, m2, n2, t2⟩, ⟨x3, y3, m3, n3, t3⟩⟩ := dig_mix hF (X := fun x => Pc s x) (fun x hx => hx.sml hs) (fun j hj => by
      obtain ⟨y, hy, e⟩ := hX j hj
      exact ⟨y, hy, by rw [← hd j hj, e, byt_dig b y hj]⟩)
    have q1 := hn0 x1 m1
    have q2 := hn0 y1 n1
    have q3 := hn0 x2 m2
    have q4 := hn0 y2 n2
    have q5 := hn0 x3 m3
    have q6 := hn0 y3 n3
    have z0 : byteOf 0 = 0 := rfl
    rw [byt63 hb hTs, ← z0] at h63
    have s63 : hS b T % 256 = 0 := by have := byteOf_inj h63; omega
    obtain ⟨g1, g2⟩ := ghostZ (a := b) (L := s.len) (tn := T.num) (tg := T.gen) (tl := T.len) hz h2 h3 hb (mem_mix2 q1.1 q2.1 t1) (by omega) (mem_mix2 q3.2.1 q4.2.1 t2) (by omega) (by rw [lo0_eq]; exact s63)
    rcases h with h | h
    · have := h.p62
      rw [byt_zero, byt62 hb hTs, ← z0] at this
      have e62 : hS b T / 256 % 256 = 0 := by have := byteOf_inj this; omega
      exact g1 (by rw [lo1_eq]; exact e62)
    · obtain ⟨u, hu, u1, u2⟩ := h.u
      obtain ⟨v, hv, v1, v2⟩ := h.v
      have hus := hu.sml hs
      have hvs := hv.sml hs
      rw [byt62 hb hTs, byt62 hb hus] at u1
      rw [byt63 hb hus, byt_zero, ← z0] at u2
      rw [byt61 hb hTs, byt61 hb hvs] at v1
      rw [byt62 hb hTs, byt62 hb hvs, byt63 hb hTs, byt63 hb hvs] at v2
      exact g2 u.num u.gen u.len v.num v.gen v.len hu hv (byteOf_inj u1) (fun e => u2 (byteOf_eq (by rw [lo0_eq] at e; have e : hS b u % 256 = 0 := e; omega))) (byteOf_inj v1) (fun e => v2 ⟨byteOf_eq e.1, byteOf_eq e.2⟩)

end Go.Proofs.YtfjajkgfgigodaaGreatDoor

/- A disk with an alarm, in plain Lean: a beginning of all writes reaches the disk, and a piece of the next one. -/
namespace Go.Proofs.YtfjajkgfgigodaaGreatDoor
open Go

/-- A disk with other flags. -/
def Dk.flags (d : Dk) (off : Bool) (arm : Option (Int × Int × Int)) : Dk := { d with q := [], off := off, arm := arm }

theorem settle_flags : ∀ (ws : List (Nat × List UInt8)) (d : Dk) (q : List (Nat × List UInt8)) (off : Bool) (arm : Option (Int × Int × Int)), ({ d with q := q, off := off, arm := arm } : Dk).settle ws = { d.settle ws with q := q, off := off, arm := arm }
  | [], _, _, _, _ => rfl
  | p :: r, d, q, off, arm => settle_flags r (d.set p.1 p.2) q off arm

theorem tear_flags (d : Dk) (o : Option (Nat × List UInt8)) (b : Int) (q : List (Nat × List UInt8)) (off : Bool) (arm : Option (Int × Int × Int)) : ({ d with q := q, off := off, arm := arm } : Dk).tear o b = { d.tear o b with q := q, off := off, arm := arm } := by
  unfold Dk.tear
  cases o with
  | none => rfl
  | some p =>
    simp only
    split <;> rfl

/-- What the power's failure leaves: a beginning of the writes, and a piece of the next one. -/
def CrashOf (d : Dk) (S : List (Nat × List UInt8)) (r : Int × Dk) : Prop := ∃ (W R : List (Nat × List UInt8)) (o : Option (Nat × List UInt8)) (b : Int), S = W ++ o.toList ++ R ∧ r = (19, ((d.settle W).tear o b).flags true none)

theorem fail_crash {d : Dk} (h : d.off = false) (w b : Int) (T : List (Nat × List UInt8)) : CrashOf d (d.q ++ T) (19, d.fail w b) := by
  unfold Dk.fail
  rw [if_neg (by rw [h]; decide)]
  generalize (min (max w 0) d.q.length).toNat = m
  refine ⟨d.q.take m, d.q.drop (m + 1) ++ T, d.q[m]?, b, ?_, rfl⟩
  cases hm : d.q[m]? with
  | none =>
    have := List.getElem?_eq_none_iff.1 hm
    rw [List.take_of_length_le this, List.drop_of_length_le (by omega)]
    simp
  | some p =>
    obtain ⟨h1, h2⟩ := List.getElem?_eq_some_iff.1 hm
    simp only [Option.toList_some, List.append_assoc]
    rw [← List.append_assoc, ← List.append_assoc]
    congr 1
    rw [List.append_assoc, ← h2, List.singleton_append, ← List.drop_eq_getElem_cons h1, List.take_append_drop]

theorem count_crash {d : Dk} (h : d.off = false) (T : List (Nat × List UInt8)) : (∃ a, d.count = (0, { d with arm := a })) ∨ CrashOf d (d.q ++ T) d.count := by
  unfold Dk.count
  cases ha : d.arm with
  | none =>
    left
    refine ⟨none, ?_⟩
    have : d = { d with arm := none } := by cases d; simp only at ha; subst ha; rfl
    simp only
    rw [← this]
  | some x =>
    obtain ⟨a, w, b⟩ := x
    simp only
    split
    · exact .inl ⟨_, rfl⟩
    · exact .inr (fail_crash h w b T)

theorem CrashOf.code {d : Dk} {S : List (Nat × List UInt8)} {r : Int × Dk} (h : CrashOf d S r) : r.1 = 19 := by
  obtain ⟨_, _, _, _, _, rfl⟩ := h
  rfl

theorem CrashOf.arm {d : Dk} {S : List (Nat × List UInt8)} {r : Int × Dk} {q : List (Nat × List UInt8)} {a : Option (Int × Int × Int)} (h : CrashOf { d with q := q, arm := a } S r) : CrashOf d S r := by
  obtain ⟨W, R, o, b, e, rfl⟩ := h
  refine ⟨W, R, o, b, e, ?_⟩
  have e1 : ({ d with q := q, arm := a } : Dk).settle W = { d.settle W with q := q, off := d.off, arm := a } := settle_flags W d q d.off a
  rw [e1, tear_flags]
  rfl

theorem each_crash {n : Nat} : ∀ (ws : List (Nat × List UInt8)) (d : Dk) (T : List (Nat × List UInt8)), d.off = false → d.st.length = n → InR n ws →
    (∃ a, eachD ws d = (0, (d.settle (d.q ++ ws)).flags false a)) ∨ CrashOf d (d.q ++ (ws ++ T)) (eachD ws d)
  | [], d, T, h1, _, _ => by
    unfold eachD Dk.sync
    rw [if_neg (by rw [h1]; decide)]
    rcases count_crash h1 T with ⟨a, hc⟩ | hc
    · left
      refine ⟨a, ?_⟩
      rw [hc]
      simp only [ne_eq, not_true_eq_false, if_false, List.append_nil]
      have e : ({ d with arm := a } : Dk).settle d.q = { d.settle d.q with q := d.q, off := d.off, arm := a } := settle_flags d.q d d.q d.off a
      rw [e, h1]
      rfl
    · right
      have h19 := hc.code
      generalize d.count = r at *
      obtain ⟨e, d1⟩ := r
      simp only at h19
      subst h19
      simp only [List.nil_append]
      exact hc
  | p :: ws, d, T, h1, h2, hr => by
    have hp := hr p (by simp)
    unfold eachD
    have hw : d.write p.1 p.2 = Dk.count { d with q := d.q ++ [p] } := by
      unfold Dk.write
      rw [if_neg (by rw [h1]; decide), if_neg (by rw [h2]; have := hp.1; have := hp.2; omega)]
      rfl
    rw [hw]
    rcases count_crash (d := { d with q := d.q ++ [p] }) h1 (ws ++ T) with ⟨a, hc⟩ | hc
    · rw [hc]
      simp only [ne_eq, not_true_eq_false, if_false]
      have ih := each_crash ws { d with q := d.q ++ [p], arm := a } T h1 h2 fun x hx => hr x (List.mem_cons_of_mem _ hx)
      rcases ih with ⟨a2, ih⟩ | ih
      · left
        refine ⟨a2, ?_⟩
        rw [ih]
        have e : ({ d with q := d.q ++ [p], arm := a } : Dk).settle (d.q ++ [p] ++ ws) = { d.settle (d.q ++ [p] ++ ws) with q := d.q ++ [p], off := d.off, arm := a } := settle_flags _ d _ d.off a
        show (0, (({ d with q := d.q ++ [p], arm := a } : Dk).settle (d.q ++ [p] ++ ws)).flags false a2) = _
        rw [e, List.append_assoc]
        rfl
      · right
        have := ih.arm
        simp only [List.append_assoc, List.cons_append, List.nil_append] at this ⊢
        exact this
    · right
      have h19 := hc.code
      have hc2 := CrashOf.arm (d := d) (a := d.arm) hc
      generalize Dk.count { d with q := d.q ++ [p] } = r at *
      obtain ⟨e, d1⟩ := r
      simp only at h19
      subst h19
      simp only [ne_eq, show ¬ (19 : Int) = 0 by decide, not_false_eq_true, if_true]
      simp only [List.append_assoc, List.cons_append, List.nil_append] at hc2 ⊢
      exact hc2

/-- Writes with an alarm: all is done, or a beginning. -/
theorem run_crash {n : Nat} : ∀ (bs : List (List (Nat × List UInt8))) (d : Dk), d.off = false → d.q = [] → d.st.length = n → (∀ b ∈ bs, InR n b) →
    (∃ a, runD bs d = (0, (d.settle bs.flatten).flags false a)) ∨ CrashOf d bs.flatten (runD bs d)
  | [], d, h1, h2, _, _ => by
    left
    refine ⟨d.arm, ?_⟩
    unfold runD Dk.flags
    simp only [List.flatten_nil, Dk.settle, List.foldl_nil]
    cases d
    simp only at h1 h2
    subst h1 h2
    rfl
  | b :: bs, d, h1, h2, h3, hr => by
    unfold runD
    have he := each_crash b d bs.flatten h1 h3 (hr b (by simp))
    rw [h2] at he
    simp only [List.nil_append] at he
    rcases he with ⟨a, he⟩ | he
    · rw [he]
      simp only [ne_eq, not_true_eq_false, if_false]
      have ih := run_crash bs ((d.settle b).flags false a) rfl rfl ((settle_len b d).trans h3) fun x hx => hr x (List.mem_cons_of_mem _ hx)
      rcases ih with ⟨a2, ih⟩ | ⟨W, R, o, c, e, ih⟩
      · left
        refine ⟨a2, ?_⟩
        rw [ih, List.flatten_cons, settle_append]
        have e : ((d.settle b).flags false a).settle bs.flatten = { (d.settle b).settle bs.flatten with q := [], off := false, arm := a } := settle_flags _ _ _ _ _
        rw [e]
        rfl
      · right
        refine ⟨b ++ W, R, o, c, by rw [List.flatten_cons, e]; simp only [List.append_assoc], ?_⟩
        rw [ih, settle_append]
        have e1 : ((d.settle b).flags false a).settle W = { (d.settle b).settle W with q := [], off := false, arm := a } := settle_flags _ _ _ _ _
        rw [e1, tear_flags]
        rfl
    · right
      have h19 := he.code
      generalize eachD b d = r at *
      obtain ⟨e, d1⟩ := r
      simp only at h19
      subst h19
      simp only [ne_eq, show ¬ (19 : Int) = 0 by decide, not_false_eq_true, if_true]
      exact he

/- SINGLE WRITES -/
theorem set_st {d : Dk} {n p k : Nat} {t : List UInt8} (h : d.Wf n) (hp : p < n) : (d.set p t).st.getD k [] = if k = p then t ++ (d.st.getD p []).drop t.length else d.st.getD k [] := by
  have hst := h.st
  simp only [Dk.set, List.getD_eq_getElem?_getD, List.getElem?_set]
  by_cases hk : k = p
  · subst hk
    rw [if_pos rfl, if_pos rfl, if_pos (by omega)]
    rfl
  · rw [if_neg hk, if_neg (Ne.symm hk)]

theorem settle_ind {P : Dk → Prop} : ∀ {ws : List (Nat × List UInt8)} {d : Dk}, (∀ d p, p ∈ ws → P d → P (d.set p.1 p.2)) → P d → P (d.settle ws)
  | [], _, _, h0 => h0
  | p :: r, d, h, h0 => settle_ind (ws := r) (d := d.set p.1 p.2) (fun d x hx => h d x (List.mem_cons_of_mem _ hx)) (h d p (by simp) h0)

/-- A beginning of writes of which two stand in the middle. -/
theorem begin_split {α : Type} {W R D E : List α} {x y : α} {o : Option α} (h : D ++ x :: y :: E = W ++ o.toList ++ R) :
    (∃ c, D = W ++ c ∧ (o = none ∨ ∃ z, o = some z ∧ z ∈ D)) ∨ (W = D ∧ (o = none ∨ o = some x)) ∨ (W = D ++ [x] ∧ (o = none ∨ o = some y)) ∨ ∃ c, W = D ++ x :: y :: c ∧ (∃ e, E = c ++ e) ∧ (o = none ∨ ∃ z, o = some z ∧ z ∈ E) := by
  have ho : o = none ∨ ∃ z, o = some z := by cases o with | none => exact .inl rfl | some z => exact .inr ⟨z, rfl⟩
  rw [List.append_assoc] at h
  rcases List.append_eq_append_iff.1 h with ⟨c, h1, h2⟩ | ⟨c, h1, h2⟩
  · -- W = D ++ c
    cases c with
    | nil =>
      right; left
      refine ⟨by simpa using h1, ?_⟩
      rcases ho with rfl | ⟨z, rfl⟩
      · exact .inl rfl
      · simp at h2; exact .inr (by rw [h2.1])
    | cons c1 c =>
      simp only [List.cons_append, List.cons.injEq] at h2
      obtain ⟨rfl, h2⟩ := h2
      cases c with
      | nil =>
        right; right; left
        refine ⟨h1, ?_⟩
        rcases ho with rfl | ⟨z, rfl⟩
        · exact .inl rfl
        · simp at h2; exact .inr (by rw [h2.1])
      | cons c2 c =>
        simp only [List.cons_append, List.cons.injEq] at h2
        obtain ⟨rfl, h2⟩ := h2
        right; right; right
        refine ⟨c, h1, ⟨_, h2⟩, ?_⟩
        rcases ho with rfl | ⟨z, rfl⟩
        · exact .inl rfl
        · exact .inr ⟨z, rfl, by rw [h2]; simp⟩
  · -- D = W ++ c
    rcases ho with rfl | ⟨z, rfl⟩
    · exact .inl ⟨c, h1, .inl rfl⟩
    · cases c with
      | nil =>
        right; left
        simp at h1 h2
        exact ⟨h1.symm, .inr (by rw [h2.1])⟩
      | cons c1 c =>
        simp at h2
        exact .inl ⟨_, h1, .inr ⟨z, rfl, by rw [h1, h2.1]; simp⟩⟩

end Go.Proofs.YtfjajkgfgigodaaGreatDoor

/- A log that the power may cut, in plain Lean: after any beginning of an operation's writes, and a piece of the next one, the log is that before it or that after it. -/
namespace Go.Proofs.YtfjajkgfgigodaaGreatDoor
open Go

/-- A log that Open finds, and heads that may be torn. -/
structure AInv (d : Dk) (L : Lg) : Prop where
  inv : Inv d L
  n40 : L.n ≤ 40
  shrt : Shrt L.s
  hb : ∀ b, b < 2 → HB b L.s (d.st.getD b [])
  cur : 1 ≤ L.s.num ∨ (L.s = ⟨0, 0, 0⟩ ∧ d.st.getD 0 [] = zS)

theorem zero_sums : ([0, 1].all fun a => li20.all fun l => decide (hS a ⟨0, 0, l⟩ % 256 ≠ 0)) = true := by decide +kernel

/-- No head of a log without numbers. -/
theorem no_head0 {s : St} {b half : Nat} {M : List UInt8} (hb : b = 0 ∨ b = 1) (hs : Shrt s) (h0 : s.num = 0) (h : HB b s M) : parseH b M half = none := by
  cases hp : parseH b M half with
  | none => rfl
  | some T =>
    exfalso
    rcases no_ghost hb hs h hp with rfl | hlt
    · obtain ⟨rfl, _, _⟩ := (parse_iff (by omega)).1 hp
      obtain ⟨_, C, hC, h63, _⟩ := h
      have h2 := hs.gen
      have h3 := hs.len
      rcases hC with ⟨c, hc, _⟩ | ⟨_, rfl⟩
      · unfold CsP at hc; omega
      · have hsm : Sml T := ⟨by omega, by omega, by omega⟩
        rw [byt_zero, byt63 hb hsm, show (0 : UInt8) = byteOf 0 from rfl] at h63
        have h4 := byteOf_inj h63
        have h5 := List.all_eq_true.1 zero_sums b (by rcases hb with rfl | rfl <;> simp)
        have h6 := of_decide_eq_true (List.all_eq_true.1 h5 T.len (mem_li20 h3))
        have e : T = ⟨0, 0, T.len⟩ := by
          cases T
          simp only at h0 h2 ⊢
          have : (_ : Nat) = 0 := Nat.le_zero.1 (h0 ▸ h2)
          rw [h0, this]
        rw [← e] at h6
        exact h6 (by omega)
    · omega

theorem pick_at {f : Nat → List UInt8} {half : Nat} {s : St} {a : Nat} (h : pickH f half = some (s, a)) : (parseH a (f a) half = some s ∧ (a = 0 ∨ a = 1)) ∨ (s = ⟨0, 0, 0⟩ ∧ a = 0) := by
  unfold pickH at h
  cases h0 : parseH 0 (f 0) half with
  | some x =>
    cases h1 : parseH 1 (f 1) half with
    | some y =>
      rw [h0, h1] at h
      simp only at h
      split at h
      · cases h
      · split at h
        · cases h; exact .inl ⟨h0, .inl rfl⟩
        · cases h; exact .inl ⟨h1, .inr rfl⟩
    | none =>
      rw [h0, h1] at h
      cases h
      exact .inl ⟨h0, .inl rfl⟩
  | none =>
    cases h1 : parseH 1 (f 1) half with
    | some y =>
      rw [h0, h1] at h
      cases h
      exact .inl ⟨h1, .inr rfl⟩
    | none =>
      rw [h0, h1] at h
      simp only at h
      split at h
      · cases h
      · cases h; exact .inr ⟨rfl, rfl⟩

/-- Where the present state stands. -/
theorem AInv.at' {d : Dk} {L : Lg} (h : AInv d L) : (L.at_ = 0 ∨ L.at_ = 1) ∧ ((1 ≤ L.s.num ∧ d.st.getD L.at_ [] = headL L.at_ L.s) ∨ (L.s = ⟨0, 0, 0⟩ ∧ L.at_ = 0 ∧ d.st.getD 0 [] = zS)) := by
  obtain ⟨_, _, hp, _, _⟩ := (open_iff h.inv.n6 h.inv.n4).1 h.inv.op
  obtain ⟨_, _, ha⟩ := pick_fits hp
  refine ⟨ha, ?_⟩
  rcases h.cur with hc | ⟨hc, hz⟩
  · rcases pick_at hp with ⟨h1, _⟩ | ⟨h1, h2⟩
    · exact .inl ⟨hc, ((parse_iff (by omega)).1 h1).1⟩
    · rw [h1] at hc; simp at hc
  · right
    rcases pick_at hp with ⟨h1, h2⟩ | ⟨h1, h2⟩
    · have := no_head0 h2 h.shrt (by rw [hc]) (h.hb L.at_ (by omega)) (half := halfN L.n)
      rw [this] at h1
      cases h1
    · exact ⟨hc, h2, hz⟩

/-- The present state and its records are as they were. -/
structure PhP (d : Dk) (L : Lg) (x : Dk) : Prop where
  wf : x.Wf L.n
  cur : x.st.getD L.at_ [] = d.st.getD L.at_ []
  hb : HB (1 - L.at_) L.s (x.st.getD (1 - L.at_) [])
  data : ∀ k, startN L.n L.s.gen ≤ k → k < startN L.n L.s.gen + L.s.len → x.st.getD k [] = d.st.getD k []

/-- The records of a state stand in their sectors. -/
def DataOf (n : Nat) (A : St) (l : List (List UInt8)) (x : Dk) : Prop := ∀ (i : Nat) (b : List UInt8), (partsL l)[i]? = some b → x.st.getD (startN n A.gen + i) [] = putL A.gen (startN n A.gen + i) b

/-- A state is said by one head at least, and its records stand in their sectors. -/
structure PhN (n : Nat) (A : St) (l : List (List UInt8)) (x : Dk) : Prop where
  wf : x.Wf n
  head : ∃ a, (a = 0 ∨ a = 1) ∧ x.st.getD a [] = headL a A ∧ HB (1 - a) A (x.st.getD (1 - a) [])
  data : DataOf n A l x

structure PhS (n : Nat) (A : St) (l : List (List UInt8)) (x : Dk) : Prop where
  wf : x.Wf n
  head : ∀ a, a < 2 → x.st.getD a [] = headL a A
  data : DataOf n A l x

theorem base_self {A : St} (b : Nat) (h : 1 ≤ A.num) : BaseOf A b (headL b A) := .inl ⟨A, .inl ⟨rfl, rfl, rfl, h⟩, rfl⟩

theorem PhS.phN {n : Nat} {A : St} {l : List (List UInt8)} {x : Dk} (h : PhS n A l x) (h1 : 1 ≤ A.num) : PhN n A l x :=
  ⟨h.wf, ⟨0, .inl rfl, h.head 0 (by decide), by rw [h.head (1 - 0) (by decide)]; exact hb_base (base_self _ h1)⟩, h.data⟩

theorem tear_cases (x : Dk) (o : Option (Nat × List UInt8)) (b : Int) : x.tear o b = x ∨ ∃ p k, o = some p ∧ 1 ≤ k ∧ k ≤ 64 ∧ x.tear o b = x.set p.1 (p.2.take k) := by
  cases o with
  | none => exact .inl rfl
  | some p =>
    by_cases hb : 0 < b
    · right
      refine ⟨p, (min b 64).toNat, rfl, by omega, by omega, ?_⟩
      show (if 0 < b then _ else _) = _
      rw [if_pos hb]
    · left
      show (if 0 < b then _ else _) = _
      rw [if_neg hb]

/-- An operation's writes: data, one head, the other one, and what follows. -/
structure Wr (d : Dk) (L : Lg) (A : St) (l : List (List UInt8)) (D E : List (Nat × List UInt8)) : Prop where
  fits : A.Fits
  half : A.len ≤ halfN L.n
  shrt : Shrt A
  num : A.num = L.s.num + 1
  nxt : (A.gen = L.s.gen ∧ L.s.len < A.len) ∨ A.gen = L.s.gen + 1
  len : A.len = (partsL l).length
  inD : ∀ p ∈ D, 2 ≤ p.1 ∧ p.1 < L.n ∧ p.2.length = 64 ∧ (p.1 < startN L.n L.s.gen ∨ startN L.n L.s.gen + L.s.len ≤ p.1)
  inE : ∀ p ∈ E, p.1 < L.n ∧ p.2.length = 64 ∧ ((p.1 < 2 ∧ p.2 = headL p.1 A) ∨ (2 ≤ p.1 ∧ (p.1 < startN L.n A.gen ∨ startN L.n A.gen + A.len ≤ p.1)))
  data : DataOf L.n A l (d.settle D)

section
variable {d : Dk} {L : Lg} {A : St} {l : List (List UInt8)} {D E : List (Nat × List UInt8)}

theorem Wr.pc (w : Wr d L A l D E) : Pc L.s A := by
  have h1 := w.num
  have h2 := w.nxt
  have h3 := w.shrt.len
  unfold Pc YsP
  omega

theorem Wr.base (w : Wr d L A l D E) (h : AInv d L) : BaseOf A L.at_ (d.st.getD L.at_ []) := by
  have h1 := w.num
  have h2 := w.nxt
  have h3 := h.shrt.len
  obtain ⟨_, hc⟩ := h.at'
  rcases hc with ⟨hc, he⟩ | ⟨hc, ha, hz⟩
  · exact .inl ⟨L.s, by unfold CsP; omega, he⟩
  · rw [ha, hz]
    exact .inr ⟨by rw [h1, hc]; exact Nat.le_refl _, rfl⟩

theorem PhP.start (h : AInv d L) : PhP d L d := ⟨h.inv.wf, rfl, h.hb _ (by have := h.at'.1; omega), fun _ _ _ => rfl⟩

theorem PhP.other {x : Dk} {p : Nat} {t : List UInt8} (h : PhP d L x) (ha : L.at_ = 0 ∨ L.at_ = 1) (h2 : 2 ≤ p) (hn : p < L.n) (ht : t.length ≤ 64) (hd : p < startN L.n L.s.gen ∨ startN L.n L.s.gen + L.s.len ≤ p) : PhP d L (x.set p t) := by
  have e := fun k => set_st (t := t) (k := k) h.wf hn
  refine ⟨set_wf h.wf hn ht, ?_, ?_, fun k h1 h3 => ?_⟩
  · rw [e, if_neg (by omega)]; exact h.cur
  · rw [e, if_neg (by omega)]; exact h.hb
  · rw [e, if_neg (by omega)]; exact h.data k h1 h3

theorem DataOf.set {n p : Nat} {x : Dk} {t : List UInt8} (h : DataOf n A l x) (w : x.Wf n) (hn : p < n) (hl : A.len = (partsL l).length) (hd : p < startN n A.gen ∨ startN n A.gen + A.len ≤ p) : DataOf n A l (x.set p t) := by
  intro i b hi
  have := (List.getElem?_eq_some_iff.1 hi).1
  rw [set_st w hn, if_neg (by omega)]
  exact h i b hi

theorem take_drop_self {t : List UInt8} {k : Nat} : t.take k ++ t.drop (t.take k).length = t := by
  rw [List.length_take]
  by_cases h : k ≤ t.length
  · rw [Nat.min_eq_left h, List.take_append_drop]
  · rw [Nat.min_eq_right (by omega), List.take_of_length_le (by omega), List.drop_length, List.append_nil]

theorem PhS.set {n : Nat} {x : Dk} {p : Nat × List UInt8} {k : Nat} (h : PhS n A l x) (_hk : k ≤ 64) (hn : p.1 < n) (hl : A.len = (partsL l).length) (h6 : 6 ≤ n) (hp : (p.1 < 2 ∧ p.2 = headL p.1 A) ∨ (2 ≤ p.1 ∧ (p.1 < startN n A.gen ∨ startN n A.gen + A.len ≤ p.1))) (h64 : p.2.length = 64) : PhS n A l (x.set p.1 (p.2.take k)) := by
  have e := fun j => set_st (t := p.2.take k) (k := j) h.wf hn
  have hst := start_le n A.gen h6
  refine ⟨set_wf h.wf hn (by rw [List.length_take]; omega), fun a ha => ?_, h.data.set h.wf hn hl (by omega)⟩
  rw [e]
  split
  · rename_i hap
    subst hap
    rcases hp with ⟨_, hp⟩ | ⟨hp, _⟩
    · rw [h.head _ ha, ← hp]
      exact take_drop_self
    · omega
  · exact h.head a ha

theorem set_whole (x : Dk) (p : Nat × List UInt8) (h : p.2.length = 64) : x.set p.1 (p.2.take 64) = x.set p.1 p.2 := by rw [List.take_of_length_le (by omega)]

/-- Heads behind the data. -/
theorem one_head (w : Wr d L A l D E) (h : AInv d L) {x : Dk} (hP : PhP d L x) (hx : DataOf L.n A l x) {k : Nat} (h1 : 1 ≤ k) (hk : k ≤ 64) :
    (PhP d L (x.set (1 - L.at_) ((headL (1 - L.at_) A).take k)) ∧ k < 64) ∨ (PhN L.n A l (x.set (1 - L.at_) ((headL (1 - L.at_) A).take k)) ∧ (x.set (1 - L.at_) ((headL (1 - L.at_) A).take k)).st.getD (1 - L.at_) [] = headL (1 - L.at_) A ∧
      (x.set (1 - L.at_) ((headL (1 - L.at_) A).take k)).st.getD L.at_ [] = d.st.getD L.at_ []) := by
  have ha := h.at'.1
  have h6 := h.inv.n6
  have hst := start_le L.n A.gen h6
  have hst2 := start_le L.n L.s.gen h6
  have hn : 1 - L.at_ < L.n := by omega
  have e := fun j => set_st (t := (headL (1 - L.at_) A).take k) (k := j) hP.wf hn
  have hwf := set_wf hP.wf hn (t := (headL (1 - L.at_) A).take k) (by rw [List.length_take, headL_len]; omega)
  have hlen : ((headL (1 - L.at_) A).take k).length = k := by rw [List.length_take, headL_len]; omega
  have eb := e (1 - L.at_)
  rw [if_pos rfl, hlen] at eb
  have ea := e L.at_
  rw [if_neg (by omega), hP.cur] at ea
  have hdat : DataOf L.n A l (x.set (1 - L.at_) ((headL (1 - L.at_) A).take k)) := hx.set hP.wf hn w.len (by omega)
  have hA := w.num
  have whole : (headL (1 - L.at_) A).take k ++ (x.st.getD (1 - L.at_) []).drop k = headL (1 - L.at_) A → PhN L.n A l (x.set (1 - L.at_) ((headL (1 - L.at_) A).take k)) ∧ (x.set (1 - L.at_) ((headL (1 - L.at_) A).take k)).st.getD (1 - L.at_) [] = headL (1 - L.at_) A ∧
      (x.set (1 - L.at_) ((headL (1 - L.at_) A).take k)).st.getD L.at_ [] = d.st.getD L.at_ [] := fun hw => by
    rw [hw] at eb
    refine ⟨⟨hwf, ⟨1 - L.at_, by omega, eb, ?_⟩, hdat⟩, eb, ea⟩
    rw [show 1 - (1 - L.at_) = L.at_ by omega, ea]
    exact hb_base (w.base h)
  by_cases h64 : k = 64
  · right
    subst h64
    refine whole ?_
    have h5 := hP.wf.s64 _ hn
    rw [List.take_of_length_le (by rw [headL_len]; omega), List.drop_of_length_le (by omega), List.append_nil]
  · rcases hb_tear hP.hb w.pc (by omega : k < 64) with hw | hb
    · exact .inr (whole hw)
    · left
      refine ⟨⟨hwf, ea, by rw [eb]; exact hb, fun j h7 h8 => ?_⟩, by omega⟩
      rw [e, if_neg (by omega)]
      exact hP.data j h7 h8

/-- The other head. -/
theorem two_heads (w : Wr d L A l D E) (h : AInv d L) {x : Dk} (hN : PhN L.n A l x) (hb1 : x.st.getD (1 - L.at_) [] = headL (1 - L.at_) A) (ha1 : x.st.getD L.at_ [] = d.st.getD L.at_ []) {k : Nat} (h1 : 1 ≤ k) (hk : k ≤ 64) :
    PhN L.n A l (x.set L.at_ ((headL L.at_ A).take k)) ∧ (k = 64 → PhS L.n A l (x.set L.at_ ((headL L.at_ A).take k))) := by
  have ha := h.at'.1
  have h6 := h.inv.n6
  have hst := start_le L.n A.gen h6
  have hn : L.at_ < L.n := by omega
  have e := fun j => set_st (t := (headL L.at_ A).take k) (k := j) hN.wf hn
  have hwf := set_wf hN.wf hn (t := (headL L.at_ A).take k) (by rw [List.length_take, headL_len]; omega)
  have hlen : ((headL L.at_ A).take k).length = k := by rw [List.length_take, headL_len]; omega
  have ea := e L.at_
  rw [if_pos rfl, hlen, ha1] at ea
  have eb := e (1 - L.at_)
  rw [if_neg (by omega), hb1] at eb
  have hdat : DataOf L.n A l (x.set L.at_ ((headL L.at_ A).take k)) := hN.data.set hN.wf hn w.len (by omega)
  have hA := w.num
  have h1A : 1 ≤ A.num := by omega
  have h5 := h.inv.wf.s64 _ hn
  constructor
  · refine ⟨hwf, ⟨1 - L.at_, by omega, eb, ?_⟩, hdat⟩
    rw [show 1 - (1 - L.at_) = L.at_ by omega, ea]
    by_cases h64 : k = 64
    · subst h64
      rw [List.take_of_length_le (by rw [headL_len]; omega), List.drop_of_length_le (by omega), List.append_nil]
      exact hb_base (base_self _ h1A)
    · rcases hb_tear (hb_base (w.base h)) (y := A) (by unfold Pc YsP; omega) (by omega : k < 64) with hw | hb
      · rw [hw]; exact hb_base (base_self _ h1A)
      · exact hb
  · rintro rfl
    rw [List.take_of_length_le (by rw [headL_len]; omega), List.drop_of_length_le (by omega), List.append_nil] at ea
    rw [List.take_of_length_le (by rw [headL_len]; omega)] at hwf eb hdat ⊢
    refine ⟨hwf, fun a ha2 => ?_, hdat⟩
    have : a = L.at_ ∨ a = 1 - L.at_ := by omega
    rcases this with rfl | rfl
    · exact ea
    · exact eb

/-- After the data. -/
theorem after_data (w : Wr d L A l D E) (h : AInv d L) : ∀ W : List (Nat × List UInt8), (∀ p ∈ W, p ∈ D) → PhP d L (d.settle W) := fun W hW =>
  settle_ind (P := PhP d L) (fun x p hp hx => by
    obtain ⟨h1, h2, h3, h4⟩ := w.inD p (hW p hp)
    exact hx.other h.at'.1 h1 h2 (by omega) h4) (PhP.start h)

theorem after_all (w : Wr d L A l D E) (h : AInv d L) : ∀ c : List (Nat × List UInt8), (∀ p ∈ c, p ∈ E) → PhS L.n A l (d.settle (D ++ (1 - L.at_, headL (1 - L.at_) A) :: (L.at_, headL L.at_ A) :: c)) := by
  intro c hc
  rw [settle_append]
  show PhS L.n A l ((((d.settle D).set (1 - L.at_) (headL (1 - L.at_) A)).set L.at_ (headL L.at_ A)).settle c)
  have hP := after_data w h D fun _ h => h
  rcases one_head w h hP w.data (k := 64) (by decide) (by decide) with ⟨_, h1⟩ | ⟨h1, h2, h3⟩
  · omega
  · have := (two_heads w h h1 h2 h3 (k := 64) (by decide) (by decide)).2 rfl
    rw [List.take_of_length_le (by rw [headL_len]; omega), List.take_of_length_le (by rw [headL_len]; omega)] at this
    refine settle_ind (P := PhS L.n A l) (fun x p hp hx => ?_) this
    obtain ⟨e1, e2, e3⟩ := w.inE p (hc p hp)
    have := hx.set (k := 64) (by decide) e1 w.len h.inv.n6 e3 e2
    rwa [set_whole x p e2] at this

/-- After a beginning of the writes and a piece of the next one. -/
theorem after_cut (w : Wr d L A l D E) (h : AInv d L) {W R : List (Nat × List UInt8)} {o : Option (Nat × List UInt8)} (b : Int) (hS : D ++ (1 - L.at_, headL (1 - L.at_) A) :: (L.at_, headL L.at_ A) :: E = W ++ o.toList ++ R) :
    PhP d L ((d.settle W).tear o b) ∨ PhN L.n A l ((d.settle W).tear o b) := by
  have h1A : 1 ≤ A.num := by have := w.num; omega
  rcases begin_split hS with ⟨c, hc, ho⟩ | ⟨hW, ho⟩ | ⟨hW, ho⟩ | ⟨c, hW, ⟨e, hE⟩, ho⟩
  · left
    have hP := after_data w h W fun p hp => by rw [hc]; exact List.mem_append_left _ hp
    rcases tear_cases (d.settle W) o b with ht | ⟨p, k, hp, k1, k2, ht⟩
    · rw [ht]; exact hP
    · rw [ht]
      rcases ho with rfl | ⟨z, rfl, hz⟩
      · cases hp
      · cases hp
        obtain ⟨h1, h2, h3, h4⟩ := w.inD _ hz
        exact hP.other h.at'.1 h1 h2 (by rw [List.length_take]; omega) h4
  · rw [hW]
    have hP := after_data w h D fun _ h => h
    rcases tear_cases (d.settle D) o b with ht | ⟨p, k, hp, k1, k2, ht⟩
    · rw [ht]; exact .inl hP
    · rw [ht]
      rcases ho with rfl | rfl
      · cases hp
      · cases hp
        rcases one_head w h hP w.data k1 k2 with ⟨h1, _⟩ | ⟨h1, _⟩
        · exact .inl h1
        · exact .inr h1
  · right
    rw [hW]
    have hP := after_data w h D fun _ h => h
    rw [settle_append]
    rcases one_head w h hP w.data (k := 64) (by decide) (by decide) with ⟨_, h1⟩ | ⟨h1, h2, h3⟩
    · omega
    · rw [List.take_of_length_le (by rw [headL_len]; omega)] at h1 h2 h3
      show PhN L.n A l (((d.settle D).set (1 - L.at_) (headL (1 - L.at_) A)).tear o b)
      rcases tear_cases ((d.settle D).set (1 - L.at_) (headL (1 - L.at_) A)) o b with ht | ⟨p, k, hp, k1, k2, ht⟩
      · rw [ht]; exact h1
      · rw [ht]
        rcases ho with rfl | rfl
        · cases hp
        · cases hp
          exact (two_heads w h h1 h2 h3 k1 k2).1
  · right
    rw [hW]
    have hSS := after_all w h c fun p hp => by rw [hE]; exact List.mem_append_left _ hp
    refine PhS.phN ?_ h1A
    rcases tear_cases (d.settle (D ++ (1 - L.at_, headL (1 - L.at_) A) :: (L.at_, headL L.at_ A) :: c)) o b with ht | ⟨p, k, hp, k1, k2, ht⟩
    · rw [ht]; exact hSS
    · rw [ht]
      rcases ho with rfl | ⟨z, rfl, hz⟩
      · cases hp
      · cases hp
        obtain ⟨e1, e2, e3⟩ := w.inE _ hz
        exact hSS.set k2 e1 w.len h.inv.n6 e3 e2

end

/- WHAT OPEN FINDS -/
theorem PhP.ainv {d x : Dk} {L : Lg} (h : AInv d L) (hP : PhP d L x) : ∃ a, AInv (x.flags false none) { L with at_ := a } := by
  have hn6 := h.inv.n6
  have hn4 := h.inv.n4
  obtain ⟨ha, hc⟩ := h.at'
  obtain ⟨_, _, hp, hl, hd⟩ := (open_iff hn6 hn4).1 h.inv.op
  obtain ⟨hf, hl2, _⟩ := pick_fits hp
  have hpk : ∃ a, pickH (fun s => x.st.getD s []) (halfN L.n) = some (L.s, a) := by
    rcases hc with ⟨h1, h2⟩ | ⟨h1, h2, h3⟩
    · refine pick_keep (a := 1 - L.at_) (by omega) hf hl2 ?_ fun t ht => no_ghost (by omega) h.shrt hP.hb ht
      simp only [show 1 - (1 - L.at_) = L.at_ by omega]
      rw [hP.cur, h2]
    · refine ⟨0, ?_⟩
      have e0 : x.st.getD 0 [] = zS := by have := hP.cur; rw [h2, h3] at this; exact this
      have hb := hP.hb
      rw [h2] at hb
      rw [pick_none (f := fun s => x.st.getD s []) (by show parseH 0 (x.st.getD 0 []) _ = none; rw [e0]; exact parse_zero _ _) (no_head0 (.inr rfl) h.shrt (by rw [h1]) hb) (.inl e0), h1]
  obtain ⟨a, hpk⟩ := hpk
  refine ⟨a, ⟨⟨⟨rfl, rfl, rfl⟩, ⟨hP.wf.st, hP.wf.el, hP.wf.s64, hP.wf.e64⟩, hn6, hn4, open_same hn6 hn4 h.inv.op hpk hP.data⟩, h.n40, h.shrt, fun b hb => ?_, ?_⟩⟩
  · show HB b L.s (x.st.getD b [])
    have : b = L.at_ ∨ b = 1 - L.at_ := by omega
    rcases this with rfl | rfl
    · rw [hP.cur]; exact h.hb _ hb
    · exact hP.hb
  · rcases hc with ⟨h1, _⟩ | ⟨h1, h2, h3⟩
    · exact .inl h1
    · exact .inr ⟨h1, by have := hP.cur; rw [h2, h3] at this; exact this⟩

theorem PhN.ainv {n : Nat} {A : St} {l : List (List UInt8)} {x : Dk} (h : PhN n A l x) (h6 : 6 ≤ n) (h40 : n ≤ 40) (hs : Shrt A) (hf : A.Fits) (hl : A.len ≤ halfN n) (h1 : 1 ≤ A.num) (hlen : A.len = (partsL l).length) :
    ∃ a, AInv (x.flags false none) ⟨A, n, a, l, false⟩ := by
  obtain ⟨a, ha, e1, e2⟩ := h.head
  obtain ⟨b, hp⟩ := pick_keep (g := fun s => x.st.getD s []) (a := 1 - a) (half := halfN n) (s := A) (by omega) hf hl (by simp only [show 1 - (1 - a) = a by omega]; exact e1) fun t ht => no_ghost (by omega) hs e2 ht
  refine ⟨b, ⟨⟨⟨rfl, rfl, rfl⟩, ⟨h.wf.st, h.wf.el, h.wf.s64, h.wf.e64⟩, h6, by show n ≤ 4000; omega, (open_iff h6 (by omega)).2 ⟨rfl, rfl, hp, hlen, h.data⟩⟩, h40, hs, fun c hc => ?_, .inl h1⟩⟩
  show HB c A (x.st.getD c [])
  have : c = a ∨ c = 1 - a := by omega
  rcases this with rfl | rfl
  · rw [e1]; exact hb_base (base_self _ h1)
  · exact e2

end Go.Proofs.YtfjajkgfgigodaaGreatDoor

/- A log that the power may cut, in plain Lean: one operation. -/
namespace Go.Proofs.YtfjajkgfgigodaaGreatDoor
open Go

theorem half_le {n : Nat} (h : n ≤ 40) : halfN n ≤ 19 := by unfold halfN; omega

/-- The data of an operation. -/
def dataW (gen frm : Nat) (parts : List (List UInt8)) : List (Nat × List UInt8) := blanks (List.range' frm parts.length) ++ datas gen frm parts

theorem dataW_in {gen frm : Nat} {parts : List (List UInt8)} (hp : ∀ (i : Nat) (b : List UInt8), parts[i]? = some b → b.length ≤ 40) {p : Nat × List UInt8} (h : p ∈ dataW gen frm parts) : frm ≤ p.1 ∧ p.1 < frm + parts.length ∧ p.2.length = 64 := by
  rcases List.mem_append.1 h with h | h
  · obtain ⟨h1, h2⟩ := blanks_mem h
    rw [List.mem_range'_1] at h1
    exact ⟨h1.1, h1.2, by rw [h2]; rfl⟩
  · obtain ⟨i, b, hb, rfl⟩ := datas_mem h
    have := (List.getElem?_eq_some_iff.1 hb).1
    exact ⟨by simp only; omega, by simp only; omega, putL_len (hp i b hb)⟩

theorem dataW_get {d : Dk} {n gen frm : Nat} {parts : List (List UInt8)} (h : d.Wf n) (hp : ∀ (i : Nat) (b : List UInt8), parts[i]? = some b → b.length ≤ 40) (hn : frm + parts.length ≤ n) {i : Nat} {b : List UInt8} (hb : parts[i]? = some b) :
    (d.settle (dataW gen frm parts)).st.getD (frm + i) [] = putL gen (frm + i) b := by
  have hi := (List.getElem?_eq_some_iff.1 hb).1
  rw [settle_get _ _ h (fun p hq => by obtain ⟨h1, h2, h3⟩ := dataW_in hp hq; exact ⟨by omega, h3⟩) (by omega)]
  unfold dataW
  rw [lastQ_append, datas_last hb]
  rfl

theorem dataW_other {d : Dk} {n gen frm k : Nat} {parts : List (List UInt8)} (h : d.Wf n) (hp : ∀ (i : Nat) (b : List UInt8), parts[i]? = some b → b.length ≤ 40) (hn : frm + parts.length ≤ n) (hk : k < n) (hd : k < frm ∨ frm + parts.length ≤ k) :
    (d.settle (dataW gen frm parts)).st.getD k [] = d.st.getD k [] := by
  rw [settle_get _ _ h (fun p hq => by obtain ⟨h1, h2, h3⟩ := dataW_in hp hq; exact ⟨by omega, h3⟩) hk, lastQ_none]
  · rfl
  · intro p hq
    obtain ⟨h1, h2, h3⟩ := dataW_in hp hq
    omega

theorem app_wr {d : Dk} {L : Lg} (h : AInv d L) (hn : L.s.num ≤ 15) (r : List UInt8) (hlen : L.s.len + (splitL r).length ≤ halfN L.n) : Wr d L (appS L r) (L.list ++ [r]) (dataW L.s.gen (startN L.n L.s.gen + L.s.len) (splitL r)) [] := by
  obtain ⟨_, _, hp, hl, hd⟩ := (open_iff h.inv.n6 h.inv.n4).1 h.inv.op
  have hst := start_le L.n L.s.gen h.inv.n6
  have h19 := half_le h.n40
  have hs := h.shrt.num
  have hg := h.shrt.gen
  have hpos := split_pos r
  have hpl : ∀ (i : Nat) (b : List UInt8), (splitL r)[i]? = some b → b.length ≤ 40 := fun i b hb => ((split_shape r).2 i b hb).1
  refine ⟨⟨?_, ?_, ?_⟩, hlen, ⟨?_, ?_, ?_⟩, rfl, .inl ⟨rfl, ?_⟩, ?_, fun p hq => ?_, fun p hq => (List.not_mem_nil hq).elim, fun i b hi => ?_⟩
  · simp only [appS]; omega
  · simp only [appS]; omega
  · simp only [appS]; omega
  · simp only [appS]; omega
  · simp only [appS]; omega
  · simp only [appS]; omega
  · simp only [appS]; omega
  · simp only [appS]
    rw [parts_append, parts_one, List.length_append, hl]
  · obtain ⟨h1, h2, h3⟩ := dataW_in hpl hq
    exact ⟨by omega, by omega, h3, .inr h1⟩
  · rw [parts_append, parts_one] at hi
    by_cases hlt : i < (partsL L.list).length
    · rw [List.getElem?_append_left hlt] at hi
      show (d.settle _).st.getD (startN L.n L.s.gen + i) [] = _
      rw [dataW_other h.inv.wf hpl (by omega) (by omega) (.inl (by omega))]
      exact hd i b hi
    · rw [List.getElem?_append_right (by omega)] at hi
      have e : startN L.n L.s.gen + i = startN L.n L.s.gen + L.s.len + (i - (partsL L.list).length) := by omega
      show (d.settle _).st.getD (startN L.n L.s.gen + i) [] = putL L.s.gen (startN L.n L.s.gen + i) b
      rw [e]
      exact dataW_get h.inv.wf hpl (by omega) hi

theorem rew_wr {d : Dk} {L : Lg} (h : AInv d L) (hn : L.s.num ≤ 15) (rs : List (List UInt8)) (hlen : (partsL rs).length ≤ halfN L.n) : Wr d L (rewS L rs) rs (dataW (L.s.gen + 1) (startN L.n (L.s.gen + 1)) (partsL rs)) (tailB L rs) := by
  obtain ⟨_, _, hp, hl, hd⟩ := (open_iff h.inv.n6 h.inv.n4).1 h.inv.op
  have h6 := h.inv.n6
  have hst := start_le L.n L.s.gen h.inv.n6
  have hst2 := start_le L.n (L.s.gen + 1) h.inv.n6
  have h19 := half_le h.n40
  have hs := h.shrt.num
  have hg := h.shrt.gen
  have hl2 := (pick_fits hp).2.1
  have hdj : startN L.n (L.s.gen + 1) + halfN L.n ≤ startN L.n L.s.gen ∨ startN L.n L.s.gen + halfN L.n ≤ startN L.n (L.s.gen + 1) := by
    unfold startN
    have : L.s.gen % 2 = 0 ∧ (L.s.gen + 1) % 2 = 1 ∨ L.s.gen % 2 = 1 ∧ (L.s.gen + 1) % 2 = 0 := by omega
    rcases this with ⟨e1, e2⟩ | ⟨e1, e2⟩ <;> rw [e1, e2] <;> omega
  have hpl : ∀ (i : Nat) (b : List UInt8), (partsL rs)[i]? = some b → b.length ≤ 40 := fun i b hb => parts_len rs hb
  refine ⟨⟨?_, ?_, ?_⟩, hlen, ⟨?_, ?_, ?_⟩, rfl, .inr rfl, rfl, fun p hq => ?_, fun p hq => ?_, fun i b hi => ?_⟩
  · simp only [rewS]; omega
  · simp only [rewS]; omega
  · simp only [rewS]; omega
  · simp only [rewS]; omega
  · simp only [rewS]; omega
  · simp only [rewS]; omega
  · obtain ⟨h1, h2, h3⟩ := dataW_in hpl hq
    exact ⟨by omega, by omega, h3, by omega⟩
  · have hb : ∀ p ∈ blanks (restS L.n (startN L.n (L.s.gen + 1)) (partsL rs).length), p.1 < L.n ∧ p.2.length = 64 ∧ ((p.1 < 2 ∧ p.2 = headL p.1 (rewS L rs)) ∨ (2 ≤ p.1 ∧ (p.1 < startN L.n (rewS L rs).gen ∨ startN L.n (rewS L rs).gen + (rewS L rs).len ≤ p.1))) := fun p hp => by
      obtain ⟨h1, h2⟩ := blanks_mem hp
      obtain ⟨m1, m2, m3⟩ := rest_mem.1 h1
      exact ⟨m1, by rw [h2]; rfl, .inr ⟨m2, m3⟩⟩
    unfold tailB at hq
    simp only [List.mem_append] at hq
    rcases hq with hq | hq | hq | hq
    · exact hb p hq
    · exact hb p hq
    · simp only [headW, List.mem_singleton] at hq
      subst hq
      exact ⟨by simp only; omega, headL_len _ _, .inl ⟨by simp only; omega, rfl⟩⟩
    · simp only [headW, List.mem_singleton] at hq
      subst hq
      exact ⟨by simp only; omega, headL_len _ _, .inl ⟨by simp only; omega, rfl⟩⟩
  · exact dataW_get h.inv.wf hpl (by omega) hi

theorem app_seq (L : Lg) (r : List UInt8) : (appB L r).flatten = dataW L.s.gen (startN L.n L.s.gen + L.s.len) (splitL r) ++ (1 - L.at_, headL (1 - L.at_) (appS L r)) :: (L.at_, headL L.at_ (appS L r)) :: [] := by
  simp [appB, putB, dataW, headW, appS]

theorem rew_seq (L : Lg) (rs : List (List UInt8)) : (rewB L rs).flatten = dataW (L.s.gen + 1) (startN L.n (L.s.gen + 1)) (partsL rs) ++ (1 - L.at_, headL (1 - L.at_) (rewS L rs)) :: (L.at_, headL L.at_ (rewS L rs)) :: tailB L rs := by
  rw [rewB_flat]
  simp [putB, dataW, headW, rewS]

/-- What an operation leaves that the power may cut. -/
structure AtPost (d : Dk) (L : Lg) (aft : List (List UInt8)) (q : Int × Lg × Dk) (L2 : Lg) : Prop where
  inv : AInv (q.2.2.flags false none) L2
  n : L2.n = L.n
  num : L2.s.num ≤ L.s.num + 1
  que : q.2.2.q = []
  code : (q.1 = 0 ∧ L2.list = aft ∧ q.2.2.off = false) ∨ (q.1 = 19 ∧ (L2.list = L.list ∨ L2.list = aft) ∧ q.2.2.off = true) ∨ (q.1 ≠ 0 ∧ q.1 ≠ 19 ∧ L2.list = L.list ∧ q.2.2.off = false)

theorem AInv.armed {d : Dk} {L : Lg} (h : AInv d L) (a w b : Int) : d.armed a w b = { d with q := [], off := false, arm := if 0 ≤ a then some (a, w, b) else none } := by
  have h1 := h.inv.calm.on
  have h2 := h.inv.calm.q
  unfold Dk.armed
  rw [if_neg (by rw [h1]; decide)]
  cases d
  simp only at h1 h2
  subst h1 h2
  rfl

theorem AInv.unarm {d : Dk} {L : Lg} (h : AInv d L) (x : Option (Int × Int × Int)) : ({ d with q := [], off := false, arm := x } : Dk).flags false none = d := by
  have h1 := h.inv.calm.on
  have h2 := h.inv.calm.q
  have h3 := h.inv.calm.arm
  cases d
  simp only at h1 h2 h3
  subst h1 h2 h3
  rfl

theorem wr_run {d : Dk} {L : Lg} {A : St} {l : List (List UInt8)} {D E : List (Nat × List UInt8)} {bs : List (List (Nat × List UInt8))} (h : AInv d L) (w : Wr d L A l D E) (hin : ∀ ws ∈ bs, InR L.n ws)
    (hs : bs.flatten = D ++ (1 - L.at_, headL (1 - L.at_) A) :: (L.at_, headL L.at_ A) :: E) (x : Option (Int × Int × Int)) :
    (∃ y a, runD bs { d with q := [], off := false, arm := x } = (0, y) ∧ y.q = [] ∧ y.off = false ∧ AInv (y.flags false none) ⟨A, L.n, a, l, false⟩) ∨
      ∃ y a, runD bs { d with q := [], off := false, arm := x } = (19, y) ∧ y.q = [] ∧ y.off = true ∧ (AInv (y.flags false none) ⟨A, L.n, a, l, false⟩ ∨ AInv (y.flags false none) { L with at_ := a }) := by
  have h1A : 1 ≤ A.num := by have := w.num; omega
  rcases run_crash (n := L.n) bs { d with q := [], off := false, arm := x } rfl rfl h.inv.wf.st hin with ⟨a, hr⟩ | hc
  · left
    have e : ({ d with q := [], off := false, arm := x } : Dk).settle bs.flatten = { d.settle bs.flatten with q := [], off := false, arm := x } := settle_flags _ _ _ _ _
    rw [e] at hr
    have hS := after_all w h E fun _ h => h
    rw [← hs] at hS
    obtain ⟨c, hc⟩ := (hS.phN h1A).ainv h.inv.n6 h.n40 w.shrt w.fits w.half h1A w.len
    exact ⟨_, c, hr, rfl, rfl, hc⟩
  · right
    have h1 := h.inv.calm.on
    have hc2 : CrashOf d bs.flatten (runD bs { d with q := [], off := false, arm := x }) := by
      have e0 : ({ d with q := [], off := false, arm := x } : Dk) = { d with q := [], arm := x } := by rw [← h1]
      rw [e0] at hc ⊢
      exact hc.arm
    obtain ⟨W, R, o, b, e, hr⟩ := hc2
    rw [hs] at e
    rcases after_cut w h b e with hP | hN
    · obtain ⟨a, ha⟩ := hP.ainv h
      exact ⟨_, a, hr, rfl, rfl, .inr ha⟩
    · obtain ⟨a, ha⟩ := hN.ainv h.inv.n6 h.n40 w.shrt w.fits w.half h1A w.len
      exact ⟨_, a, hr, rfl, rfl, .inl ha⟩

theorem app_atomic {d : Dk} {L : Lg} (h : AInv d L) (hn : L.s.num ≤ 15) (r : List UInt8) (a w b : Int) : ∃ L2, AtPost d L (L.list ++ [r]) (appL L (d.armed a w b) r) L2 := by
  obtain ⟨_, hbk, hp, hl, hd⟩ := (open_iff h.inv.n6 h.inv.n4).1 h.inv.op
  obtain ⟨hf, hl2, ha⟩ := pick_fits hp
  have hst := start_le L.n L.s.gen h.inv.n6
  have h6 := h.inv.n6
  rw [h.armed a w b]
  generalize (if 0 ≤ a then some (a, w, b) else none) = x
  have keep : ∀ c : Int, c ≠ 0 → c ≠ 19 → AtPost d L (L.list ++ [r]) (c, L, { d with q := [], off := false, arm := x }) L := fun c h0 h1 =>
    ⟨by rw [h.unarm x]; exact h, rfl, by omega, rfl, .inr (.inr ⟨h0, h1, rfl, rfl⟩)⟩
  unfold appL
  rw [if_neg (by rw [hbk]; decide)]
  split
  · exact ⟨L, keep 3 (by decide) (by decide)⟩
  · split
    · exact ⟨L, keep 18 (by decide) (by decide)⟩
    · rename_i h2 h3
      have w := app_wr h hn r (by omega)
      have hin : ∀ ws ∈ appB L r, InR L.n ws := putB_in ha (by omega) (by show startN L.n L.s.gen + L.s.len + (splitL r).length ≤ L.n; omega) fun i b hb => ((split_shape r).2 i b hb).1
      rcases wr_run h w hin (app_seq L r) x with ⟨y, c, hr, hq, ho, hA⟩ | ⟨y, c, hr, hq, ho, hA⟩
      · rw [hr]
        exact ⟨_, ⟨hA, rfl, by simp only [appS]; omega, hq, .inl ⟨rfl, rfl, ho⟩⟩⟩
      · rw [hr]
        rcases hA with hA | hA
        · exact ⟨_, ⟨hA, rfl, by simp only [appS]; omega, hq, .inr (.inl ⟨rfl, .inr rfl, ho⟩)⟩⟩
        · exact ⟨_, ⟨hA, rfl, by show L.s.num ≤ _; omega, hq, .inr (.inl ⟨rfl, .inl rfl, ho⟩)⟩⟩

theorem rew_atomic {d : Dk} {L : Lg} (h : AInv d L) (hn : L.s.num ≤ 15) (rs : List (List UInt8)) (a w b : Int) : ∃ L2, AtPost d L rs (rewL L (d.armed a w b) rs) L2 := by
  obtain ⟨_, hbk, hp, hl, hd⟩ := (open_iff h.inv.n6 h.inv.n4).1 h.inv.op
  obtain ⟨hf, hl2, ha⟩ := pick_fits hp
  have hst := start_le L.n (L.s.gen + 1) h.inv.n6
  have h6 := h.inv.n6
  rw [h.armed a w b]
  generalize (if 0 ≤ a then some (a, w, b) else none) = x
  have keep : ∀ c : Int, c ≠ 0 → c ≠ 19 → AtPost d L rs (c, L, { d with q := [], off := false, arm := x }) L := fun c h0 h1 =>
    ⟨by rw [h.unarm x]; exact h, rfl, by omega, rfl, .inr (.inr ⟨h0, h1, rfl, rfl⟩)⟩
  unfold rewL
  rw [if_neg (by rw [hbk]; decide)]
  split
  · exact ⟨L, keep 3 (by decide) (by decide)⟩
  · split
    · exact ⟨L, keep 18 (by decide) (by decide)⟩
    · split
      · exact ⟨L, keep 18 (by decide) (by decide)⟩
      · rename_i h2 h3 h4
        have w := rew_wr h hn rs (by omega)
        have hin : ∀ ws ∈ rewB L rs, InR L.n ws := rewB_in ha (by omega) (by omega)
        rcases wr_run h w hin (rew_seq L rs) x with ⟨y, c, hr, hq, ho, hA⟩ | ⟨y, c, hr, hq, ho, hA⟩
        · rw [hr]
          exact ⟨_, ⟨hA, rfl, by simp only [rewS]; omega, hq, .inl ⟨rfl, rfl, ho⟩⟩⟩
        · rw [hr]
          rcases hA with hA | hA
          · exact ⟨_, ⟨hA, rfl, by simp only [rewS]; omega, hq, .inr (.inl ⟨rfl, .inr rfl, ho⟩)⟩⟩
          · exact ⟨_, ⟨hA, rfl, by show L.s.num ≤ _; omega, hq, .inr (.inl ⟨rfl, .inl rfl, ho⟩)⟩⟩

theorem new_ainv {n : Nat} (h6 : 6 ≤ n) (h40 : n ≤ 40) : AInv (newD n) ⟨⟨0, 0, 0⟩, n, 0, [], false⟩ := by
  have hz : ∀ i, i < n → (newD n).st.getD i [] = zS := fun i hi => by simp [newD, List.getD_eq_getElem?_getD, hi]
  refine ⟨new_inv h6 (by omega), h40, ⟨Nat.zero_le _, Nat.le_refl _, Nat.zero_le _⟩, fun b hb => ?_, .inr ⟨rfl, hz 0 (by omega)⟩⟩
  rw [hz b (by omega)]
  exact hb_base (.inr ⟨Nat.zero_le _, rfl⟩)

end Go.Proofs.YtfjajkgfgigodaaGreatDoor

/- The statement LogAtomic. -/
namespace Go.Proofs.YtfjajkgfgigodaaGreatDoor
open Go

theorem app_code2 {L : Lg} {d : Dk} {o : OpP} (hk : o.kind % 2 = 0) : stepL L d o = appL L d o.body := if_pos hk
theorem rew_code2 {L : Lg} {d : Dk} {o : OpP} (hk : o.kind % 2 = 1) : stepL L d o = rewL L d o.list := if_neg (by omega)

/-- One operation that the power may cut. -/
theorem step_atomic {d : Dk} {L : Lg} (h : AInv d L) (hn : L.s.num ≤ 15) (o : OpP) (a w b : Int) : ∃ L2, AtPost d L (afterL L.list o) (stepL L (d.armed a w b) o) L2 := by
  unfold stepL afterL
  split
  · exact app_atomic h hn o.body a w b
  · exact rew_atomic h hn o.list a w b

theorem arm_off {d : Dk} (h : d.off = false) (hq : d.q = []) : d.armed (-1) 0 0 = d.flags false none := by
  unfold Dk.armed
  rw [if_neg (by rw [h]; decide), if_neg (by decide)]
  cases d
  simp only at h hq
  subst h hq
  rfl

theorem arm_start {d : Dk} (hq : d.q = []) : d.start.armed (-1) 0 0 = d.flags false none := by
  exact (arm_off (d := d.start) rfl hq).trans rfl

theorem arm_q (d : Dk) (a w b : Int) : (d.armed a w b).q = d.q := by unfold Dk.armed; split <;> rfl

set_option maxHeartbeats 8000000 in
set_option maxRecDepth 100000 in
theorem atomic_law (n : Int) (xs : List OpW) (ov : Value) (h : Heap) (ht : TabH h) (hO : Ops h ov xs) :
    SpecR Tryz.prog 9 [.int .i64 n, ov] h fun r h' => r = .bool true ∧ Own h [] h' := by
  refine Spec.enter Tryz.func9 rfl Tryz.ntmps9 (by kernel_rfl) ?_
  refine CallVC.ret (head_spec46 h ht) ?_
  rintro _ m1 ⟨rfl, oc1⟩
  refine CallVC.ret (light_spec n xs ov _ (hO.ext oc1.ext)) ?_
  rintro _ m2 ⟨⟨bl, rfl, hl⟩, oc2⟩
  have o1 : Own ⟨h, []⟩ [] m2 := oc1.ext' oc2
  clear oc1 oc2
  cases bl with
  | false =>
    refine Br.tt ?_
    refine RetVC.one rfl ?_
    exact ⟨rfl, o1⟩
  | true =>
    have hL := hl rfl
    have hn40 := hL.n
    refine Br.ff ?_
    by_cases hn : n < 1
    · refine CallVC.ret (new_none n _ (.inl hn)) ?_
      rintro _ m3 ⟨rfl, oc⟩
      have o2 := o1.ext' oc
      clear oc o1
      refine CallVC.ret (open_nil _) ?_
      rintro _ m4 ⟨rfl, oc⟩
      have o3 := o2.ext' oc
      clear oc o2
      refine Br.tt ?_
      refine RetVC.one rfl ?_
      exact ⟨rfl, o3⟩
    obtain ⟨N, rfl⟩ : ∃ N : Nat, n = N := ⟨n.toNat, by omega⟩
    refine CallVC.ret (new_disk N _ (by omega) (by omega)) ?_
    rintro _ m3 ⟨dp, I0, rfl, hI0, oc⟩
    have o2 : Own ⟨h, []⟩ [I0] m3 := o1.call oc
    clear oc o1
    refine CallVC.ret (open_spec ⟨h, []⟩ dp (newD N) I0 _ ht hI0 (by simp [newD]) o2) ?_
    by_cases h6 : N < 6
    · rw [open_small h6]
      rintro _ m4 ⟨rfl, o3⟩
      clear o2
      refine Br.tt ?_
      refine RetVC.one rfl ?_
      exact ⟨rfl, o3.sel [] rfl⟩
    have hop := (new_dinv (n := N) (by omega) (by omega)).inv.open'
    rw [hop]
    rintro _ m4 ⟨lp, lv, rv, rfl, o3⟩
    replace o3 : Own ⟨h, []⟩ [I0, box lp (logC dp ⟨⟨0, 0, 0⟩, N, 0, [], false⟩ lv) 74, row lv 9 1 0 [], row rv 9 1 0 []] m4 := o3
    refine Br.ff ?_
    refine LoopVC.intro [4, 7, 8, 10, 11, 12, 13, 14, 15, 16, 17, 35, 36, 37, 38, 39, 40, 41, 42, 43, 44, 45, 46, 47, 48, 49, 50, 51, 52, 53, 54, 55, 56, 57, 58, 59, 60, 61, 62, 63, 64, 65, 66, 67, 68, 69, 70, 71, 72, 73, 74, 75, 76, 77, 78, 79, 80, 81, 82, 83, 84, 85, 86, 87, 88, 89, 90, 91, 92, 93, 94, 95, 96, 97, 98, 99, 100, 101, 102, 103, 104, 105, 106, 107, 108, 109, 110, 111, 112, 113, 114, 115, 116, 117, 118, 119, 120, 121, 122, 123, 124, 125, 126, 127, 128, 129, 130, 131, 132, 133, 134, 135, 136, 137, 138, 139, 140, 141, 142, 143, 144, 145, 146, 147, 148, 149, 150, 151, 152, 153] [7, 8, 10] (fun vs hh => ∃ (i : Nat) (L : Lg) (d : Dk) (lp : Nat) (lv' : Value) (I' : Item) (wa : Option Addr) (wc : Nat), i ≤ xs.length ∧ vs = [.pointer (some ⟨lp, 0, none⟩), .slice wa L.list.length wc, .int .i64 i] ∧ AInv d L ∧ L.n = N ∧ L.s.num ≤ i ∧ IsDisk dp d I' ∧ Own ⟨h, []⟩ [I', box lp (logC dp L lv') 74, row lv' 9 1 L.list.length (strs L.list), row (.slice wa L.list.length wc) 9 1 L.list.length (strs L.list)] hh) (fun vs _ => match vs with | [_, _, .int _ i] => xs.length - i.toNat | _ => 0) ?_ ?_
    · obtain ⟨ra, rc, hre⟩ := o3.rowIs 3 rfl
      subst hre
      exact ⟨0, ⟨⟨0, 0, 0⟩, N, 0, [], false⟩, newD N, lp, lv, I0, ra, rc, by omega, rfl, new_ainv (by omega) (by omega), rfl, Nat.le_refl _, hI0, o3⟩
    · clear o3 o2
      rintro vs junk hh ⟨i, L, d, lp, lv', I', wa, wc, hi, rfl, hA, hLn, hnum, hI', o3⟩
      have hA1 := hO.arr.ext o3.ext
      have hx16 := hL.len
      have hlk := hA.inv.lok
      have hll := hlk.list
      have hq0 : d.q = [] := hA.inv.calm.q
      by_cases hlt : i < xs.length
      · obtain ⟨x, hxi⟩ : ∃ x, xs[i]? = some x := ⟨xs[i], by simp [hlt]⟩
        have hmem : x ∈ xs := List.mem_of_getElem? hxi
        have ok := hO.ok x hmem
        have okw := hL.ok x hmem
        have hf0 : (opC x)[0]? = some (.int .u8 x.kind) := rfl
        have hf1 : (opC x)[1]? = some (.string ⟨⟨x.body⟩⟩) := rfl
        have hf2 : (opC x)[2]? = some x.lv := rfl
        have hf3 : (opC x)[3]? = some (.int .i64 x.after) := rfl
        have hf4 : (opC x)[4]? = some (.int .i64 x.writes) := rfl
        have hf5 : (opC x)[5]? = some (.int .i64 x.bytes) := rfl
        have htm := tmod_kind ok.kind.1
        have hk2 := kind_two ok
        have h20 := okw.2.1
        have hb1 := okw.1
        have hsl : (strs L.list).length = L.list.length := by simp
        refine StillVC.run (StillVC.lenN hA1 sl35 ?_)
        refine Br.dec (fun c101 => ?_) (fun hc => absurd (by omega) hc)
        refine DrawVC.join [11, 41, 42, 43, 44, 45, 46, 47, 48, 49, 50] [11] (fun vs h' => ∃ av, vs = [av] ∧ Own ⟨h, []⟩ [I', box lp (logC dp L lv') 74, row lv' 9 1 L.list.length (strs L.list), row (.slice wa L.list.length wc) 9 1 L.list.length (strs L.list), row av 9 1 (L.list ++ [x.body]).length (strs (L.list ++ [x.body]))] h') ?_ ?_
        · skip
          refine DrawVC.introMT [1, 3, 4, 5, 6] [7] [10] (.one 1 (.one 3 (.one 4 (.one 5 (.one 6 (.one 7 (.fork 0 8 (.fork 2 8 (.one 8 (.one 9 (.one 10 .done))) (.one 2 (.one 9 (.one 10 .done)))) (.one 0 (.one 2 (.one 9 (.one 10 .done))))))))))) mixed (by kernel_rfl) rfl (fun _ _ _ _ h => h) ?_
          refine StillVC.idxN sl35 ty43 hA1 rfl (by omega) (by omega) ?_
          refine StillVC.fieldAdr hA1 (by omega) st43 rfl rfl rfl ?_
          refine StillVC.toM ?_
          refine StillVC.loadFF hA1 ty9 (fun _ => rfl) rfl (by assumption) rfl ?_
          refine And.intro ?_ ?_
          · (refine RunVC.lit (Own.refl _) sl22 ty9 rfl rfl (by decide) (And.intro rfl ?_); intro b140 m140 o140)
            refine And.intro (.inr ⟨Ext.refl _, o140.ext⟩) ?_
            have o141 : Own ⟨hh, []⟩ [row (.slice (some ⟨b140, 0, none⟩) 0 0) 9 1 0 []] m140 := Own.boxRow o140 0 rfl 1 0 0 rfl (Nat.le_refl _) (by decide)
            clear o140
            have hAw := (o3.rowArr 3 rfl).ext o141.ext
            refine And.intro ?_ ?_
            · (refine RunVC.append o141 0 rfl sl22 ty9 (by decide) hAw.toN (by simp [Value.oneCell']) (by simp only [maxLen]; first | omega | (simp; omega)) (by first | omega | (simp; omega)) ?_; intro v150 m150 o150)
              refine And.intro (.inr ⟨o141.ext, o150.ext⟩) ?_
              (refine RunVC.lit o150 sl22 ty9 rfl rfl (by decide) (And.intro rfl ?_); intro b151 m151 o151)
              refine And.intro (.inr ⟨o150.ext, o151.ext⟩) ?_
              (refine RunVC.append o151 0 rfl sl22 ty9 (by decide) (o151.boxArr 1 rfl (by simp) (by simp)).toN (by simp [Value.oneCell']) (by simp only [maxLen]; first | omega | (simp; omega)) (by first | omega | (simp; omega)) ?_; intro v152 m152 o152)
              refine And.intro (.inr ⟨o151.ext, o152.ext⟩) ?_
              refine ⟨rfl, ?_⟩
              simp only [List.nil_append, List.cons_append, Nat.zero_add, hsl, List.length_singleton] at o152
              have o9 := Own.call o3 o152
              simp only [List.cons_append, List.nil_append] at o9
              refine ⟨_, rfl, ?_⟩
              rw [app_strs, app_len]
              exact o9.sel [0, 1, 2, 3, 4] rfl
            · (refine RunVC.lit o141 sl22 ty9 rfl rfl (by decide) (And.intro rfl ?_); intro b160 m160 o160)
              refine And.intro (.inr ⟨o141.ext, o160.ext⟩) ?_
              clear hAw
              have hAw := (o3.rowArr 3 rfl).ext o160.ext
              (refine RunVC.append o160 0 rfl sl22 ty9 (by decide) hAw.toN (by simp [Value.oneCell']) (by simp only [maxLen]; first | omega | (simp; omega)) (by first | omega | (simp; omega)) ?_; intro v170 m170 o170)
              refine And.intro (.inr ⟨o160.ext, o170.ext⟩) ?_
              (refine RunVC.append o170 0 rfl sl22 ty9 (by decide) (o170.boxArr 1 rfl (by simp) (by simp)).toN (by simp [Value.oneCell']) (by simp only [maxLen]; first | omega | (simp; omega)) (by first | omega | (simp; omega)) ?_; intro v171 m171 o171)
              refine And.intro (.inr ⟨o170.ext, o171.ext⟩) ?_
              refine ⟨rfl, ?_⟩
              simp only [List.nil_append, List.cons_append, Nat.zero_add, hsl, List.length_singleton] at o171
              have o9 := Own.call o3 o171
              simp only [List.cons_append, List.nil_append] at o9
              refine ⟨_, rfl, ?_⟩
              rw [app_strs, app_len]
              exact o9.sel [0, 1, 2, 3, 4] rfl
          · (refine RunVC.lit (Own.refl _) sl22 ty9 rfl rfl (by decide) (And.intro rfl ?_); intro b180 m180 o180)
            refine And.intro (.inr ⟨Ext.refl _, o180.ext⟩) ?_
            (refine RunVC.lit o180 sl22 ty9 rfl rfl (by decide) (And.intro rfl ?_); intro b181 m181 o181)
            refine And.intro (.inr ⟨o180.ext, o181.ext⟩) ?_
            have o182 : Own ⟨hh, []⟩ [box b180 [Value.string ⟨⟨x.body⟩⟩] 9, row (.slice (some ⟨b181, 0, none⟩) 0 0) 9 1 0 []] m181 := Own.boxRow o181 1 rfl 1 0 0 rfl (Nat.le_refl _) (by decide)
            clear o181
            have hAw := (o3.rowArr 3 rfl).ext o182.ext
            (refine RunVC.append o182 1 rfl sl22 ty9 (by decide) hAw.toN (by simp [Value.oneCell']) (by simp only [maxLen]; first | omega | (simp; omega)) (by first | omega | (simp; omega)) ?_; intro v190 m190 o190)
            refine And.intro (.inr ⟨o182.ext, o190.ext⟩) ?_
            (refine RunVC.append o190 1 rfl sl22 ty9 (by decide) (o190.boxArr 0 rfl (by simp) (by simp)).toN (by simp [Value.oneCell']) (by simp only [maxLen]; first | omega | (simp; omega)) (by first | omega | (simp; omega)) ?_; intro v191 m191 o191)
            refine And.intro (.inr ⟨o190.ext, o191.ext⟩) ?_
            refine ⟨rfl, ?_⟩
            simp only [List.nil_append, List.cons_append, Nat.zero_add, hsl, List.length_singleton] at o191
            have o9 := Own.call o3 o191
            simp only [List.cons_append, List.nil_append] at o9
            refine ⟨_, rfl, ?_⟩
            rw [app_strs, app_len]
            exact o9.sel [0, 1, 2, 3, 5] rfl
        · rintro vs2 junk2 m4 ⟨av, rfl, o4⟩
          clear o3 hA1
          have hA1 := hO.arr.ext o4.ext
          refine StillVC.run (StillVC.idxN sl35 ty43 hA1 rfl (by omega) (by omega) ?_)
          refine StillVC.run (StillVC.fieldAdr hA1 (by omega) st43 rfl rfl rfl ?_)
          refine StillVC.run (StillVC.loadFF hA1 ty5 (fun _ => rfl) rfl (by assumption) rfl ?_)
          refine StillVC.run (StillVC.rem rfl rfl (by decide) ?_)
          refine Br.join [11, 58, 59, 60, 61, 62, 63, 64] [11] (fun vs hh => ∃ (aa : Option Addr) (ac : Nat), vs = [.slice aa (afterL L.list (opP x)).length ac] ∧ Own ⟨h, []⟩ [I', box lp (logC dp L lv') 74, row lv' 9 1 L.list.length (strs L.list), row (.slice wa L.list.length wc) 9 1 L.list.length (strs L.list), row (.slice aa (afterL L.list (opP x)).length ac) 9 1 (afterL L.list (opP x)).length (strs (afterL L.list (opP x)))] hh) rfl rfl ?_ ?_
          · rcases hk2 with ⟨hk, hk'⟩ | ⟨hk, hk'⟩
            · rw [hk'] at htm
              have e2 : afterL L.list (opP x) = L.list ++ [x.body] := by simp [afterL, hk]; rfl
              obtain ⟨aa, ac, hav⟩ := o4.rowIs 4 rfl
              refine Br.dec (fun hc => absurd hc (by omega)) (fun c220 => ?_)
              refine ⟨rfl, ?_⟩
              exact ⟨aa, ac, by rw [e2, hav], by rw [e2, ← hav]; exact o4⟩
            · rw [hk'] at htm
              have e2 : afterL L.list (opP x) = x.list := by simp [afterL, hk]; rfl
              refine Br.dec (fun c240 => ?_) (fun hc => absurd (by omega) hc)
              (refine RunVC.lit o4 sl22 ty9 rfl rfl (by decide) (And.intro rfl ?_); intro b241 m241 o241)
              have o242 : Own ⟨h, []⟩ [I', box lp (logC dp L lv') 74, row lv' 9 1 L.list.length (strs L.list), row (.slice wa L.list.length wc) 9 1 L.list.length (strs L.list), row av 9 1 (L.list ++ [x.body]).length (strs (L.list ++ [x.body])), row (.slice (some ⟨b241, 0, none⟩) 0 0) 9 1 0 []] m241 := Own.boxRow o241 5 rfl 1 0 0 rfl (Nat.le_refl _) (by decide)
              clear hA1 o241 o4
              have hA1 := hO.arr.ext o242.ext
              have hB := ok.arr.ext o242.ext
              have hxl : (strs x.list).length = x.list.length := by simp
              refine StillVC.run (StillVC.idxN sl35 ty43 hA1 rfl (by omega) (by omega) ?_)
              refine StillVC.run (StillVC.fieldAdr hA1 (by omega) st43 rfl rfl rfl ?_)
              refine StillVC.run (StillVC.loadFF hA1 ty22 (fun _ => rfl) rfl (by assumption) rfl ?_)
              (refine RunVC.append o242 5 rfl sl22 ty9 (by decide) hB.toN (by simp [Value.oneCell']) (by simp only [maxLen]; first | omega | (simp; omega)) (by first | omega | (simp; omega)) ?_; intro v253 m253 o253)
              refine ⟨rfl, ?_⟩
              simp only [List.nil_append, Nat.zero_add, hxl] at o253
              obtain ⟨xa, xc, hxe⟩ := o253.rowIs 5 rfl
              exact ⟨xa, xc, by rw [e2, hxe], by rw [e2, ← hxe]; exact o253.sel [0, 1, 2, 3, 5] rfl⟩
          · rintro vs3 junk3 m5 ⟨aa, ac, rfl, o5⟩
            clear o4 hA1
            have hA1 := hO.arr.ext o5.ext
            refine DrawVC.intro [0, 1, 2, 3, 4, 6, 7, 8, 9, 10, 12, 13, 14, 15] [5, 11, 16] [17] [0, 1, 2, 3, 4, 5, 6, 7, 8, 9, 10, 11, 12, 13, 14, 15, 16, 17] mixed (by kernel_rfl) rfl (fun _ _ _ _ h => h) ?_
            refine StillVC.idxN sl35 ty43 hA1 rfl (by omega) (by omega) ?_
            refine StillVC.fieldAdr hA1 (by omega) st43 rfl rfl rfl ?_
            refine StillVC.loadFF hA1 ty3 (fun _ => rfl) rfl (by assumption) rfl ?_
            refine StillVC.rem rfl rfl (by decide) ?_
            refine StillVC.idxN sl35 ty43 hA1 rfl (by omega) (by omega) ?_
            refine StillVC.fieldAdr hA1 (by omega) st43 rfl rfl rfl ?_
            refine StillVC.loadFF hA1 ty3 (fun _ => rfl) rfl (by assumption) rfl ?_
            refine StillVC.idxN sl35 ty43 hA1 rfl (by omega) (by omega) ?_
            refine StillVC.fieldAdr hA1 (by omega) st43 rfl rfl rfl ?_
            refine StillVC.loadFF hA1 ty3 (fun _ => rfl) rfl (by assumption) rfl ?_
            have h60 := Int.tmod_lt_of_pos x.after (show (0 : Int) < 60 by decide)
            refine CallVC.ret (arm_disk _ dp d I' (x.after.tmod 60) x.writes x.bytes _ hI' (o5.lend [0] [1, 2, 3, 4] rfl) (by omega)) ?_
            rintro _ m6 ⟨rfl, I6, hI6, oc⟩
            have o6 : Own ⟨h, []⟩ [I6, box lp (logC dp L lv') 74, row lv' 9 1 L.list.length (strs L.list), row (.slice wa L.list.length wc) 9 1 L.list.length (strs L.list), row (.slice aa (afterL L.list (opP x)).length ac) 9 1 (afterL L.list (opP x)).length (strs (afterL L.list (opP x)))] m6 := oc.back
            clear oc o5 hA1
            have hA1 := hO.arr.ext o6.ext
            obtain ⟨L2, hpost⟩ := step_atomic hA (by omega) (opP x) (x.after.tmod 60) x.writes x.bytes
            have hqa := arm_q d (x.after.tmod 60) x.writes x.bytes
            rw [hq0] at hqa
            generalize d.armed (x.after.tmod 60) x.writes x.bytes = da at *
            refine StillVC.run (StillVC.idxN sl35 ty43 hA1 rfl (by omega) (by omega) ?_)
            refine StillVC.run (StillVC.fieldAdr hA1 (by omega) st43 rfl rfl rfl ?_)
            refine StillVC.run (StillVC.loadFF hA1 ty5 (fun _ => rfl) rfl (by assumption) rfl ?_)
            refine StillVC.run (StillVC.rem rfl rfl (by decide) ?_)
            refine Br.join [12, 90, 91, 92, 93, 94, 95, 96, 97, 98, 99, 100, 101, 102, 103] [12] (fun vs hh => ∃ (q : Int × Lg × Dk) (lv2 : Value) (I2 : Item), vs = [.int .i64 q.1] ∧ AtPost d L (afterL L.list (opP x)) q L2 ∧ IsDisk dp q.2.2 I2 ∧ Own ⟨h, []⟩ [I2, row (.slice wa L.list.length wc) 9 1 L.list.length (strs L.list), row (.slice aa (afterL L.list (opP x)).length ac) 9 1 (afterL L.list (opP x)).length (strs (afterL L.list (opP x)))] hh) rfl rfl ?_ ?_
            · rcases hk2 with ⟨hk, hk'⟩ | ⟨hk, hk'⟩
              · rw [hk'] at htm
                rw [app_code2 hk] at hpost
                have e1 : (opP x).body = x.body := rfl
                rw [e1] at hpost
                refine Br.dec (fun c340 => ?_) (fun hc => absurd (by omega) hc)
                refine StillVC.run (StillVC.idxN sl35 ty43 hA1 rfl (by omega) (by omega) ?_)
                refine StillVC.run (StillVC.fieldAdr hA1 (by omega) st43 rfl rfl rfl ?_)
                refine StillVC.run (StillVC.loadFF hA1 ty9 (fun _ => rfl) rfl (by assumption) rfl ?_)
                refine CallVC.ret (append_spec _ lp dp da I6 L lv' x.body _ (by exact ht) hI6 (by rw [hqa]; simp) hlk (by omega) (by omega) (o6.lend [0, 1, 2] [3, 4] rfl)) ?_
                generalize appL L da x.body = q at *
                rintro _ m7 ⟨rfl, I2, lv2, hI2, oc⟩
                have o7 : Own ⟨h, []⟩ [I2, box lp (logC dp q.2.1 lv2) 74, row lv2 9 1 q.2.1.list.length (strs q.2.1.list), row (.slice wa L.list.length wc) 9 1 L.list.length (strs L.list), row (.slice aa (afterL L.list (opP x)).length ac) 9 1 (afterL L.list (opP x)).length (strs (afterL L.list (opP x)))] m7 := oc.back
                clear oc o6 hA1
                refine ⟨rfl, ?_⟩
                exact ⟨q, lv2, I2, rfl, hpost, hI2, o7.sel [0, 3, 4] rfl⟩
              · rw [hk'] at htm
                rw [rew_code2 hk] at hpost
                have e1 : (opP x).list = x.list := rfl
                rw [e1] at hpost
                have hpb := partsL_short x.list okw.2.1 okw.2.2
                refine Br.dec (fun hc => absurd hc (by omega)) (fun c380 => ?_)
                refine StillVC.run (StillVC.idxN sl35 ty43 hA1 rfl (by omega) (by omega) ?_)
                refine StillVC.run (StillVC.fieldAdr hA1 (by omega) st43 rfl rfl rfl ?_)
                refine StillVC.run (StillVC.loadFF hA1 ty22 (fun _ => rfl) rfl (by assumption) rfl ?_)
                have o6e : Own ⟨h, []⟩ [emptyI, I6, box lp (logC dp L lv') 74, row lv' 9 1 L.list.length (strs L.list), row (.slice wa L.list.length wc) 9 1 L.list.length (strs L.list), row (.slice aa (afterL L.list (opP x)).length ac) 9 1 (afterL L.list (opP x)).length (strs (afterL L.list (opP x)))] m6 := o6.emptyI'
                refine CallVC.ret (rewrite_spec ⟨h, [row (.slice wa L.list.length wc) 9 1 L.list.length (strs L.list), row (.slice aa (afterL L.list (opP x)).length ac) 9 1 (afterL L.list (opP x)).length (strs (afterL L.list (opP x)))] ++ []⟩ lp dp da I6 emptyI L lv' x.lv x.list _ (by exact ht) hI6 (by rw [hqa]; simp) hlk (by omega) (by omega) (fun r hr => by have := okw.2.2 r hr; omega) (RD.base ok.arr) (o6e.lend [1, 2, 3, 0] [4, 5] rfl)) ?_
                generalize rewL L da x.list = q at *
                rintro _ m7 ⟨rfl, I2, lv2, hI2, oc⟩
                have o7 : Own ⟨h, []⟩ [I2, box lp (logC dp q.2.1 lv2) 74, row lv2 9 1 q.2.1.list.length (strs q.2.1.list), emptyI, row (.slice wa L.list.length wc) 9 1 L.list.length (strs L.list), row (.slice aa (afterL L.list (opP x)).length ac) 9 1 (afterL L.list (opP x)).length (strs (afterL L.list (opP x)))] m7 := Own.back (B := ⟨h, []⟩) oc
                clear oc o6 o6e hA1
                refine ⟨rfl, ?_⟩
                exact ⟨q, lv2, I2, rfl, hpost, hI2, o7.sel [0, 4, 5] rfl⟩
            · clear hpost hI6 o6 hA1 hI' hqa
              rintro vs4 junk4 m8 ⟨q, lv2, I2, rfl, hpost, hI2, o8⟩
              have hq8 := hpost.que
              refine Br.join [106, 107] [] (fun _ hh => ∃ (y : Dk) (I3 : Item), IsDisk dp y I3 ∧ y.armed (-1) 0 0 = q.2.2.flags false none ∧ Own ⟨h, []⟩ [I3, row (.slice wa L.list.length wc) 9 1 L.list.length (strs L.list), row (.slice aa (afterL L.list (opP x)).length ac) 9 1 (afterL L.list (opP x)).length (strs (afterL L.list (opP x)))] hh) rfl rfl ?_ ?_
              · by_cases h19 : q.1 = 19
                · refine Br.dec (fun c440 => ?_) (fun hc => absurd (by omega) hc)
                  refine CallVC.ret (start_disk _ dp _ I2 _ hI2 (o8.lend [0] [1, 2] rfl)) ?_
                  rintro _ m9 ⟨rfl, I3, hI3, oc⟩
                  have o9 : Own ⟨h, []⟩ [I3, row (.slice wa L.list.length wc) 9 1 L.list.length (strs L.list), row (.slice aa (afterL L.list (opP x)).length ac) 9 1 (afterL L.list (opP x)).length (strs (afterL L.list (opP x)))] m9 := oc.back
                  clear oc o8
                  refine ⟨rfl, ?_⟩
                  exact ⟨_, I3, hI3, arm_start hq8, o9⟩
                · have hoff : q.2.2.off = false := by
                    rcases hpost.code with ⟨_, _, hc⟩ | ⟨hc, _⟩ | ⟨_, _, _, hc⟩
                    · exact hc
                    · exact absurd hc h19
                    · exact hc
                  refine Br.dec (fun hc => absurd hc (by omega)) (fun c480 => ?_)
                  refine ⟨rfl, ?_⟩
                  exact ⟨_, I2, hI2, arm_off hoff hq8, o8⟩
              · clear o8 hI2
                rintro vs5 junk5 m9 ⟨y, I3, hI3, hy, o9⟩
                refine CallVC.ret (arm_disk _ dp y I3 (-1) 0 0 _ hI3 (o9.lend [0] [1, 2] rfl) (by decide)) ?_
                rw [hy]
                rintro _ m10 ⟨rfl, I4, hI4, oc⟩
                have o10 : Own ⟨h, []⟩ [I4, row (.slice wa L.list.length wc) 9 1 L.list.length (strs L.list), row (.slice aa (afterL L.list (opP x)).length ac) 9 1 (afterL L.list (opP x)).length (strs (afterL L.list (opP x)))] m10 := oc.back
                clear oc o9 hI3
                have hA2 := hpost.inv
                have hn2 := hpost.n
                have hm2 := hpost.num
                have hcode := hpost.code
                have hll2 := hA2.inv.lok.list
                have haf : (afterL L.list (opP x)).length ≤ 10000 := by
                  unfold afterL
                  split
                  · rw [List.length_append, List.length_singleton]; omega
                  · show x.list.length ≤ _; omega
                generalize q.2.2.flags false none = d2 at *
                refine CallVC.ret (open_spec _ dp d2 I4 _ (by exact ht) hI4 (by rw [hA2.inv.calm.q]; simp) (o10.lend [0] [1, 2] rfl)) ?_
                rw [hA2.inv.open']
                rintro _ m11 ⟨kp, kv, gv, rfl, oc⟩
                have o11 : Own ⟨h, []⟩ [I4, box kp (logC dp L2 kv) 74, row kv 9 1 L2.list.length (strs L2.list), row gv 9 1 L2.list.length (strs L2.list), row (.slice wa L.list.length wc) 9 1 L.list.length (strs L.list), row (.slice aa (afterL L.list (opP x)).length ac) 9 1 (afterL L.list (opP x)).length (strs (afterL L.list (opP x)))] m11 := oc.back
                clear oc o10
                obtain ⟨ga, gc, rfl⟩ := o11.rowIs 3 rfl
                refine CallVC.ret (same_spec L2.list L.list _ _ _ (o11.rowArr 3 rfl) (o11.rowArr 4 rfl) (by omega)) ?_
                rintro _ m12 ⟨rfl, oc⟩
                have o12 := o11.ext' oc
                clear oc o11
                refine CallVC.ret (same_spec L2.list (afterL L.list (opP x)) _ _ _ (o12.rowArr 3 rfl) (o12.rowArr 5 rfl) (by omega)) ?_
                rintro _ m13 ⟨rfl, oc⟩
                have o13 := o12.ext' oc
                clear oc o12
                rcases hcode with ⟨hc, hl2, _⟩ | ⟨hc, hl2, _⟩ | ⟨hc0, hc19, hl2, _⟩
                · by_cases he1 : L2.list = L.list
                  · rw [decide_eq_true he1, decide_eq_true hl2]
                    refine Br.ff ?_
                    refine Br.ff ?_
                    refine Br.dec (fun c600 => ?_) (fun hc => absurd (by omega) hc)
                    refine Br.ff ?_
                    refine Br.ndec (fun hc => absurd (by first | omega | assumption | decide | exact rfl) hc) (fun c601 => ?_)
                    refine Br.ff ?_
                    refine Ar.i64 (by omega) (by omega) ?_
                    refine ⟨rfl, ?_⟩
                    exact ⟨⟨i + 1, L2, _, kp, kv, I4, ga, gc, by omega, rfl, hA2, by omega, by omega, hI4, o13.sel [0, 1, 2, 3] rfl⟩, by simp only; omega⟩
                  · rw [decide_eq_false he1, decide_eq_true hl2]
                    refine Br.ff ?_
                    refine Br.tt ?_
                    refine Br.ff ?_
                    refine Br.dec (fun c620 => ?_) (fun hc => absurd (by omega) hc)
                    refine Br.ff ?_
                    refine Br.ndec (fun hc => absurd (by first | omega | assumption | decide | exact rfl) hc) (fun c621 => ?_)
                    refine Br.ff ?_
                    refine Ar.i64 (by omega) (by omega) ?_
                    refine ⟨rfl, ?_⟩
                    exact ⟨⟨i + 1, L2, _, kp, kv, I4, ga, gc, by omega, rfl, hA2, by omega, by omega, hI4, o13.sel [0, 1, 2, 3] rfl⟩, by simp only; omega⟩
                · by_cases he1 : L2.list = L.list
                  · by_cases he2 : L2.list = afterL L.list (opP x)
                    · rw [decide_eq_true he1, decide_eq_true he2]
                      refine Br.ff ?_
                      refine Br.ff ?_
                      refine Br.dec (fun hc => absurd hc (by omega)) (fun c640 => ?_)
                      refine Br.ndec (fun c641 => ?_) (fun hc => absurd hc (by first | omega | assumption | decide | exact rfl))
                      refine Br.ndec (fun hc => absurd (by first | omega | assumption | decide | exact rfl) hc) (fun c642 => ?_)
                      refine Br.ff ?_
                      refine Ar.i64 (by omega) (by omega) ?_
                      refine ⟨rfl, ?_⟩
                      exact ⟨⟨i + 1, L2, _, kp, kv, I4, ga, gc, by omega, rfl, hA2, by omega, by omega, hI4, o13.sel [0, 1, 2, 3] rfl⟩, by simp only; omega⟩
                    · rw [decide_eq_true he1, decide_eq_false he2]
                      refine Br.ff ?_
                      refine Br.ff ?_
                      refine Br.dec (fun hc => absurd hc (by omega)) (fun c660 => ?_)
                      refine Br.ndec (fun c661 => ?_) (fun hc => absurd hc (by first | omega | assumption | decide | exact rfl))
                      refine Br.ndec (fun hc => absurd (by first | omega | assumption | decide | exact rfl) hc) (fun c662 => ?_)
                      refine Br.ff ?_
                      refine Ar.i64 (by omega) (by omega) ?_
                      refine ⟨rfl, ?_⟩
                      exact ⟨⟨i + 1, L2, _, kp, kv, I4, ga, gc, by omega, rfl, hA2, by omega, by omega, hI4, o13.sel [0, 1, 2, 3] rfl⟩, by simp only; omega⟩
                  · rw [decide_eq_false he1, decide_eq_true (hl2.resolve_left he1)]
                    refine Br.ff ?_
                    refine Br.tt ?_
                    refine Br.ff ?_
                    refine Br.dec (fun hc => absurd hc (by omega)) (fun c680 => ?_)
                    refine Br.ndec (fun c681 => ?_) (fun hc => absurd hc (by first | omega | assumption | decide | exact rfl))
                    refine Br.ndec (fun hc => absurd (by first | omega | assumption | decide | exact rfl) hc) (fun c682 => ?_)
                    refine Br.ff ?_
                    refine Ar.i64 (by omega) (by omega) ?_
                    refine ⟨rfl, ?_⟩
                    exact ⟨⟨i + 1, L2, _, kp, kv, I4, ga, gc, by omega, rfl, hA2, by omega, by omega, hI4, o13.sel [0, 1, 2, 3] rfl⟩, by simp only; omega⟩
                · by_cases he2 : L2.list = afterL L.list (opP x)
                  · rw [decide_eq_true hl2, decide_eq_true he2]
                    refine Br.ff ?_
                    refine Br.ff ?_
                    refine Br.dec (fun hc => absurd hc (by omega)) (fun c700 => ?_)
                    refine Br.ndec (fun c701 => ?_) (fun hc => absurd hc (by first | omega | assumption | decide | exact rfl))
                    refine Br.ndec (fun c702 => ?_) (fun hc => absurd hc (by first | omega | assumption | decide | exact rfl))
                    refine Br.ff ?_
                    refine Ar.i64 (by omega) (by omega) ?_
                    refine ⟨rfl, ?_⟩
                    exact ⟨⟨i + 1, L2, _, kp, kv, I4, ga, gc, by omega, rfl, hA2, by omega, by omega, hI4, o13.sel [0, 1, 2, 3] rfl⟩, by simp only; omega⟩
                  · rw [decide_eq_true hl2, decide_eq_false he2]
                    refine Br.ff ?_
                    refine Br.ff ?_
                    refine Br.dec (fun hc => absurd hc (by omega)) (fun c720 => ?_)
                    refine Br.ndec (fun c721 => ?_) (fun hc => absurd hc (by first | omega | assumption | decide | exact rfl))
                    refine Br.ndec (fun c722 => ?_) (fun hc => absurd hc (by first | omega | assumption | decide | exact rfl))
                    refine Br.ff ?_
                    refine Ar.i64 (by omega) (by omega) ?_
                    refine ⟨rfl, ?_⟩
                    exact ⟨⟨i + 1, L2, _, kp, kv, I4, ga, gc, by omega, rfl, hA2, by omega, by omega, hI4, o13.sel [0, 1, 2, 3] rfl⟩, by simp only; omega⟩
      · obtain rfl : i = xs.length := by omega
        refine StillVC.run (StillVC.lenN hA1 sl35 ?_)
        refine Br.dec (fun hc => absurd hc (by omega)) (fun c801 => ?_)
        refine RetVC.one rfl ?_
        exact ⟨rfl, o3.sel [] rfl⟩

end Go.Proofs.YtfjajkgfgigodaaGreatDoor
