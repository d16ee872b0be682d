/-
  Decimal numerals: their digits, their values; texts that are cut at a sign.
-/
import Derived.Lib.ItoaMem
namespace Go.Proofs.YtnmfanjhepepbaaGreatDoor
open Go

def undec (l : List UInt8) : Nat := l.foldl (fun n c => n * 10 + (c.toNat - 48)) 0

end Go.Proofs.YtnmfanjhepepbaaGreatDoor
