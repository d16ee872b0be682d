/-
  Arrays behind a pointer; slices of a box; copy.
-/
import Derived.Test.YtnmfanjhepepbaaGreatDoorNVcSync
import Derived.Laws.CopyRow
namespace Go.Proofs.YtnmfanjhepepbaaGreatDoor
open Go

section
variable {P : Program} {ty : TypeId} {s : List Value} {h0 : Base} {h : Heap} {L : List Item} {K : KK} {Q : QQ} {pr : Bool}

theorem StillVC.strLss {t t' : TypeId} {x y : Operand} {a b : List UInt8} (hx : ev s x = .string ⟨⟨a⟩⟩) (hy : ev s y = .string ⟨⟨b⟩⟩) (hk : K (.bool (Op.bytesLess a b)) false h) : StillVC pr P (.binOp .lss t x y t') ty s h K :=
  .pure' _ false (fun w => by simp [execOp, hx, hy, eqGuard_at_string, binOp, Op.stringOp]) hk
theorem StillVC.strGtr {t t' : TypeId} {x y : Operand} {a b : List UInt8} (hx : ev s x = .string ⟨⟨a⟩⟩) (hy : ev s y = .string ⟨⟨b⟩⟩) (hk : K (.bool (!(Op.bytesLess a b || a == b))) false h) : StillVC pr P (.binOp .gtr t x y t') ty s h K :=
  .pure' _ false (fun w => by simp [execOp, hx, hy, eqGuard_at_string, binOp, Op.stringOp]) hk

end

theorem Own.of_ext {h h' : Heap} (e : Ext h h') : Own h [] h' := OwnR.own ⟨e, by simp, by simp, by simp, .nil⟩
theorem Own.thenE {B : Base} {L : List Item} {h h' : Heap} (o' : Own h [] h') (o : Own B L h) : Own B L h' := o.ext' o'

theorem Own.rowIs {B : Base} {L : List Item} {h : Heap} (o : Own B L h) (k : Nat) {v : Value} {e sz n : Nat} {xs : List Value} (hk : L[k]? = some (row v e sz n xs)) : ∃ a c, v = .slice a n c := by
  obtain ⟨_, r⟩ : rowH h e sz v n xs := o.sat _ (List.mem_of_getElem? hk)
  rcases r with ⟨rfl, rfl⟩ | ⟨g, cap, cur, rfl, _⟩
  · exact ⟨_, _, rfl⟩
  · exact ⟨_, _, rfl⟩

end Go.Proofs.YtnmfanjhepepbaaGreatDoor
