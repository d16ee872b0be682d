/-
  A list of operations in memory: six fields each, of which one is a list of texts.
-/
import Derived.Test.YtfjajkgfgigodaaGreatDoorVcMem4
namespace Go.Proofs.YtfjajkgfgigodaaGreatDoor
open Go

/-- An operation as a law is handed it: its numbers, its text, its list as a value and as it reads. -/
structure OpW where
  kind : Int
  body : List UInt8
  lv : Value
  list : List (List UInt8)
  after : Int
  writes : Int
  bytes : Int
deriving Inhabited

def opC (o : OpW) : List Value := [.int .u8 o.kind, .string ⟨⟨o.body⟩⟩, o.lv, .int .i64 o.after, .int .i64 o.writes, .int .i64 o.bytes]

theorem opC_len (o : OpW) : (opC o).length = 6 := rfl

structure OpOK (h : Heap) (o : OpW) : Prop where
  arr : Arr h o.lv (strs o.list)
  kind : 0 ≤ o.kind ∧ o.kind ≤ 255
  body : o.body.length ≤ 140737488351232
  list : ∀ s ∈ o.list, s.length ≤ 140737488351232
  after : -9223372036854775808 ≤ o.after ∧ o.after ≤ 9223372036854775807
  writes : -9223372036854775808 ≤ o.writes ∧ o.writes ≤ 9223372036854775807
  bytes : -9223372036854775808 ≤ o.bytes ∧ o.bytes ≤ 9223372036854775807

/-- A slice of operations. -/
structure Ops (h : Heap) (v : Value) (xs : List OpW) : Prop where
  arr : ArrN 6 h v xs.length (xs.flatMap opC)
  ok : ∀ x ∈ xs, OpOK h x

end Go.Proofs.YtfjajkgfgigodaaGreatDoor
